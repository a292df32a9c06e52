/- StoreNobody returns true for every input, and leaves what it was given as it was. -/
import Derived.Test.YtnmajohhfcgddaaRows
import Derived.Test.YtnmajohhfcgddaaDxS1
import Derived.Test.YtnmajohhfcgddaaDxTop
import Derived.Shelf.Lays2
import Derived.WalkKit
import Derived.ProofKit
import Derived.OpenShut
import Derived.JoinedCond
import Derived.Deep.DeepHandedRow
import Derived.LaidLaws
namespace Go.Proofs.Ytnmajohhfcgddaa.storeNobody
open Go.ChangeShapes Go.WideShapes Go.ChangeAt Go.RowKit Go.Dx Go.Shelf
set_option linter.unusedVariables false
set_option maxRecDepth 100000

theorem own : ownKnob Try.prog.godebug = none := by kernel_rfl

/-! ### Where nothing but plain data comes in -/
section
variable {H : Type} {enc : TypeId × Value → H} {P : Program}
theorem trod_struct3 {w : World} {base : Nat} {spare : Nat → Bool} {held : Bool} {t : TypeId} {f0 f1 f2 : Field} {fuel : Nat} {cs : List Value} {x : DataW H × List MemPlace} (ht : P.underlying t = some (.struct #[f0, f1, f2])) (h : DataW.trod enc P w base spare held fuel t cs = some x) :
    ∃ y0 y1 y2 n, x = (.agg [y0.1, y1.1, y2.1], y0.2 ++ (y1.2 ++ y2.2)) ∧ cs.length = P.cellsOf t ∧ DataW.trod enc P w base spare held n f0.type ((cs.drop f0.offset).take (P.cellsOf f0.type)) = some y0 ∧
      DataW.trod enc P w base spare held n f1.type ((cs.drop f1.offset).take (P.cellsOf f1.type)) = some y1 ∧ DataW.trod enc P w base spare held n f2.type ((cs.drop f2.offset).take (P.cellsOf f2.type)) = some y2 := by
  obtain ⟨xs, n, _, rfl, hl, hlen, hf⟩ := DataW.trod_struct ht h
  match xs, hlen with
  | [y0, y1, y2], _ => exact ⟨y0, y1, y2, n, by simp, hl, by simpa using hf 0 f0 rfl, by simpa using hf 1 f1 rfl, by simpa using hf 2 f2 rfl⟩
theorem post_plain {f : Func} {s : ChangeSpec} {apart fresh handsOn again : Bool} {W W' : World} {args : Array Value} {v : Value} {ds gs : List (DataW H)}
    (hW : DataW.Whole enc P f.params.toList s.vars apart W args.toList ds gs [])
    (hres : ∀ (b : Nat) (sp : Nat → Bool) (hd : Bool), DataW.TrodAll enc P W' b sp hd f.resultTypes.toList (v.resultList f.resultTypes.size) (s.fn H (ds ++ gs)).results [])
    (hargs : ∀ sp : Nat → Bool, DataW.TrodAll enc P W' 0 sp true f.params.toList args.toList (s.fn H (ds ++ gs)).args [])
    (hvars : ∀ sp : Nat → Bool, DataW.TrodVars enc P W' sp s.vars (s.fn H (ds ++ gs)).vars [])
    (hk : Kept W W')
    (hok : ∀ (j : Nat) (t : TypeId) (r : Value), f.resultTypes[j]? = some t → (v.resultList f.resultTypes.size)[j]? = some r → Value.okWide P W' .any 0 t r) :
    s.post enc P f apart fresh handsOn again W args v W' := by
  refine ⟨ds, gs, [], [], [], [], hW, hres _ _ _, hargs _, hvars _, hk.keptBut _, fun _ => ?_⟩
  refine ⟨hok, _, _, [], ⟨[], [], trodAll_append (hargs _) (hres _ _ _), hvars _, rfl, ?_, ?_⟩, ?_⟩
  · intro b off hp; cases hp
  · intro _; exact List.nodup_nil
  · intro p hp; cases hp
end

/-! ### The evaluator's tables -/
inductive BT where
  | leaf
  | node (k : Nat) (d : DFunc) (l r : BT)
def BT.find : BT → Nat → Option DFunc
  | .leaf, _ => none
  | .node k d l r, x => bif Nat.beq x k then some d else bif Nat.blt x k then l.find x else r.find x
def BT.All (Q : Nat → DFunc → Prop) : BT → Prop
  | .leaf => True
  | .node k d l r => Q k d ∧ l.All Q ∧ r.All Q
theorem BT.find_all {Q : Nat → DFunc → Prop} : ∀ {t : BT} {x : Nat} {d : DFunc}, t.All Q → t.find x = some d → Q x d
  | .leaf, x, d, _, h => by cases h
  | .node k d0 l r, x, d, ⟨h1, h2, h3⟩, h => by
    unfold BT.find at h
    cases hb : Nat.beq x k with
    | true =>
      rw [hb] at h
      simp only [cond_true, Option.some.injEq] at h
      subst h
      rw [Nat.eq_of_beq_eq_true hb]; exact h1
    | false =>
      rw [hb] at h
      cases hl : Nat.blt x k with
      | true => rw [hl] at h; exact BT.find_all h2 h
      | false => rw [hl] at h; exact BT.find_all h3 h
def FnOk (k : Nat) (df : DFunc) : Prop := ∃ f, Try.prog.funcs[k]? = some f ∧ trFunc Try.prog f = some df
def tab : BT := (.node 52 d52 (.node 27 d27 (.node 14 d14 (.node 8 d8 (.node 5 d5 (.node 3 d3 (.node 2 d2 .leaf .leaf) (.node 4 d4 .leaf .leaf)) (.node 7 d7 (.node 6 d6 .leaf .leaf) .leaf)) (.node 11 d11 (.node 10 d10 (.node 9 d9 .leaf .leaf) .leaf) (.node 13 d13 (.node 12 d12 .leaf .leaf) .leaf))) (.node 21 d21 (.node 18 d18 (.node 16 d16 (.node 15 d15 .leaf .leaf) (.node 17 d17 .leaf .leaf)) (.node 20 d20 (.node 19 d19 .leaf .leaf) .leaf)) (.node 24 d24 (.node 23 d23 (.node 22 d22 .leaf .leaf) .leaf) (.node 26 d26 (.node 25 d25 .leaf .leaf) .leaf)))) (.node 40 d40 (.node 34 d34 (.node 31 d31 (.node 29 d29 (.node 28 d28 .leaf .leaf) (.node 30 d30 .leaf .leaf)) (.node 33 d33 (.node 32 d32 .leaf .leaf) .leaf)) (.node 37 d37 (.node 36 d36 (.node 35 d35 .leaf .leaf) .leaf) (.node 39 d39 (.node 38 d38 .leaf .leaf) .leaf))) (.node 46 d46 (.node 43 d43 (.node 42 d42 (.node 41 d41 .leaf .leaf) .leaf) (.node 45 d45 (.node 44 d44 .leaf .leaf) .leaf)) (.node 49 d49 (.node 48 d48 (.node 47 d47 .leaf .leaf) .leaf) (.node 51 d51 (.node 50 d50 .leaf .leaf) .leaf))))) (.node 78 d78 (.node 65 d65 (.node 59 d59 (.node 56 d56 (.node 54 d54 (.node 53 d53 .leaf .leaf) (.node 55 d55 .leaf .leaf)) (.node 58 d58 (.node 57 d57 .leaf .leaf) .leaf)) (.node 62 d62 (.node 61 d61 (.node 60 d60 .leaf .leaf) .leaf) (.node 64 d64 (.node 63 d63 .leaf .leaf) .leaf))) (.node 71 d71 (.node 68 d68 (.node 67 d67 (.node 66 d66 .leaf .leaf) .leaf) (.node 70 d70 (.node 69 d69 .leaf .leaf) .leaf)) (.node 75 d75 (.node 73 d73 (.node 72 d72 .leaf .leaf) .leaf) (.node 77 d77 (.node 76 d76 .leaf .leaf) .leaf)))) (.node 91 d91 (.node 85 d85 (.node 82 d82 (.node 80 d80 (.node 79 d79 .leaf .leaf) (.node 81 d81 .leaf .leaf)) (.node 84 d84 (.node 83 d83 .leaf .leaf) .leaf)) (.node 88 d88 (.node 87 d87 (.node 86 d86 .leaf .leaf) .leaf) (.node 90 d90 (.node 89 d89 .leaf .leaf) .leaf))) (.node 97 d97 (.node 94 d94 (.node 93 d93 (.node 92 d92 .leaf .leaf) .leaf) (.node 96 d96 (.node 95 d95 .leaf .leaf) .leaf)) (.node 100 d100 (.node 99 d99 (.node 98 d98 .leaf .leaf) .leaf) (.node 102 d102 (.node 101 d101 .leaf .leaf) .leaf))))))
theorem tab_ok : tab.All FnOk := ⟨⟨_, Try.func52, tr52⟩, ⟨⟨_, Try.func27, tr27⟩, ⟨⟨_, Try.func14, tr14⟩, ⟨⟨_, Try.func8, tr8⟩, ⟨⟨_, Try.func5, tr5⟩, ⟨⟨_, Try.func3, tr3⟩, ⟨⟨_, Try.func2, tr2⟩, trivial, trivial⟩, ⟨⟨_, Try.func4, tr4⟩, trivial, trivial⟩⟩, ⟨⟨_, Try.func7, tr7⟩, ⟨⟨_, Try.func6, tr6⟩, trivial, trivial⟩, trivial⟩⟩, ⟨⟨_, Try.func11, tr11⟩, ⟨⟨_, Try.func10, tr10⟩, ⟨⟨_, Try.func9, tr9⟩, trivial, trivial⟩, trivial⟩, ⟨⟨_, Try.func13, tr13⟩, ⟨⟨_, Try.func12, tr12⟩, trivial, trivial⟩, trivial⟩⟩⟩, ⟨⟨_, Try.func21, tr21⟩, ⟨⟨_, Try.func18, tr18⟩, ⟨⟨_, Try.func16, tr16⟩, ⟨⟨_, Try.func15, tr15⟩, trivial, trivial⟩, ⟨⟨_, Try.func17, tr17⟩, trivial, trivial⟩⟩, ⟨⟨_, Try.func20, tr20⟩, ⟨⟨_, Try.func19, tr19⟩, trivial, trivial⟩, trivial⟩⟩, ⟨⟨_, Try.func24, tr24⟩, ⟨⟨_, Try.func23, tr23⟩, ⟨⟨_, Try.func22, tr22⟩, trivial, trivial⟩, trivial⟩, ⟨⟨_, Try.func26, tr26⟩, ⟨⟨_, Try.func25, tr25⟩, trivial, trivial⟩, trivial⟩⟩⟩⟩, ⟨⟨_, Try.func40, tr40⟩, ⟨⟨_, Try.func34, tr34⟩, ⟨⟨_, Try.func31, tr31⟩, ⟨⟨_, Try.func29, tr29⟩, ⟨⟨_, Try.func28, tr28⟩, trivial, trivial⟩, ⟨⟨_, Try.func30, tr30⟩, trivial, trivial⟩⟩, ⟨⟨_, Try.func33, tr33⟩, ⟨⟨_, Try.func32, tr32⟩, trivial, trivial⟩, trivial⟩⟩, ⟨⟨_, Try.func37, tr37⟩, ⟨⟨_, Try.func36, tr36⟩, ⟨⟨_, Try.func35, tr35⟩, trivial, trivial⟩, trivial⟩, ⟨⟨_, Try.func39, tr39⟩, ⟨⟨_, Try.func38, tr38⟩, trivial, trivial⟩, trivial⟩⟩⟩, ⟨⟨_, Try.func46, tr46⟩, ⟨⟨_, Try.func43, tr43⟩, ⟨⟨_, Try.func42, tr42⟩, ⟨⟨_, Try.func41, tr41⟩, trivial, trivial⟩, trivial⟩, ⟨⟨_, Try.func45, tr45⟩, ⟨⟨_, Try.func44, tr44⟩, trivial, trivial⟩, trivial⟩⟩, ⟨⟨_, Try.func49, tr49⟩, ⟨⟨_, Try.func48, tr48⟩, ⟨⟨_, Try.func47, tr47⟩, trivial, trivial⟩, trivial⟩, ⟨⟨_, Try.func51, tr51⟩, ⟨⟨_, Try.func50, tr50⟩, trivial, trivial⟩, trivial⟩⟩⟩⟩⟩, ⟨⟨_, Try.func78, tr78⟩, ⟨⟨_, Try.func65, tr65⟩, ⟨⟨_, Try.func59, tr59⟩, ⟨⟨_, Try.func56, tr56⟩, ⟨⟨_, Try.func54, tr54⟩, ⟨⟨_, Try.func53, tr53⟩, trivial, trivial⟩, ⟨⟨_, Try.func55, tr55⟩, trivial, trivial⟩⟩, ⟨⟨_, Try.func58, tr58⟩, ⟨⟨_, Try.func57, tr57⟩, trivial, trivial⟩, trivial⟩⟩, ⟨⟨_, Try.func62, tr62⟩, ⟨⟨_, Try.func61, tr61⟩, ⟨⟨_, Try.func60, tr60⟩, trivial, trivial⟩, trivial⟩, ⟨⟨_, Try.func64, tr64⟩, ⟨⟨_, Try.func63, tr63⟩, trivial, trivial⟩, trivial⟩⟩⟩, ⟨⟨_, Try.func71, tr71⟩, ⟨⟨_, Try.func68, tr68⟩, ⟨⟨_, Try.func67, tr67⟩, ⟨⟨_, Try.func66, tr66⟩, trivial, trivial⟩, trivial⟩, ⟨⟨_, Try.func70, tr70⟩, ⟨⟨_, Try.func69, tr69⟩, trivial, trivial⟩, trivial⟩⟩, ⟨⟨_, Try.func75, tr75⟩, ⟨⟨_, Try.func73, tr73⟩, ⟨⟨_, Try.func72, tr72⟩, trivial, trivial⟩, trivial⟩, ⟨⟨_, Try.func77, tr77⟩, ⟨⟨_, Try.func76, tr76⟩, trivial, trivial⟩, trivial⟩⟩⟩⟩, ⟨⟨_, Try.func91, tr91⟩, ⟨⟨_, Try.func85, tr85⟩, ⟨⟨_, Try.func82, tr82⟩, ⟨⟨_, Try.func80, tr80⟩, ⟨⟨_, Try.func79, tr79⟩, trivial, trivial⟩, ⟨⟨_, Try.func81, tr81⟩, trivial, trivial⟩⟩, ⟨⟨_, Try.func84, tr84⟩, ⟨⟨_, Try.func83, tr83⟩, trivial, trivial⟩, trivial⟩⟩, ⟨⟨_, Try.func88, tr88⟩, ⟨⟨_, Try.func87, tr87⟩, ⟨⟨_, Try.func86, tr86⟩, trivial, trivial⟩, trivial⟩, ⟨⟨_, Try.func90, tr90⟩, ⟨⟨_, Try.func89, tr89⟩, trivial, trivial⟩, trivial⟩⟩⟩, ⟨⟨_, Try.func97, tr97⟩, ⟨⟨_, Try.func94, tr94⟩, ⟨⟨_, Try.func93, tr93⟩, ⟨⟨_, Try.func92, tr92⟩, trivial, trivial⟩, trivial⟩, ⟨⟨_, Try.func96, tr96⟩, ⟨⟨_, Try.func95, tr95⟩, trivial, trivial⟩, trivial⟩⟩, ⟨⟨_, Try.func100, tr100⟩, ⟨⟨_, Try.func99, tr99⟩, ⟨⟨_, Try.func98, tr98⟩, trivial, trivial⟩, trivial⟩, ⟨⟨_, Try.func102, tr102⟩, ⟨⟨_, Try.func101, tr101⟩, trivial, trivial⟩, trivial⟩⟩⟩⟩⟩⟩

def ren : Ren := { f := fun n => if n = 21 then 53 else if n = 27 then 74 else if n = 28 then 75 else if n = 35 then 91 else if n = 39 then 99 else n, t := fun n => if n = 22 then 34 else n, g := fun n => n }
theorem lays : Lays2.n21 Try.prog ren := by
  constructor
  all_goals first | kernel_rfl | (intro w; kernel_rfl)
theorem body53 (X : Array Value) (w : World) : (callFunc 53 X).run Try.prog w = .ok (.enter 53 X) w := callFunc_run Try.func53 (by kernel_rfl) (by kernel_rfl) X w
def env : Env := { fn := tab.find, intr := fun k => bif Nat.beq k 53 then some insD else none, lf := 100000 }
theorem env_ok : EnvOk Try.prog env := by
  refine ⟨by kernel_rfl, fun k df h => BT.find_all tab_ok h, fun k F h => ?_⟩
  have h : (bif Nat.beq k 53 then some insD else none) = some F := h
  cases hb : Nat.beq k 53 with
  | false => rw [hb] at h; cases h
  | true =>
    rw [hb] at h
    simp only [cond_true, Option.some.injEq] at h
    subst h
    rw [Nat.eq_of_beq_eq_true hb]
    exact ins_ok lays body53

theorem runs (a b c : Int) : okOf (kcall env 200 (.func (.func 7) #[] #[]) [.agg #[.int .i64 a, .int .i64 b, .int .i64 c]] s0) = true := by kernel_rfl
theorem walk (a b c : Int) (w : World) : Calls Try.prog 7 #[.agg #[.int .i64 a, .int .i64 b, .int .i64 c]] w fun e w' => e = .returned (.bool true) ∧ Kept w w' :=
  top env_ok (runs a b c) (fun _ => .cons (.agg (.cons (.int _ _) (.cons (.int _ _) (.cons (.int _ _) .nil)))) .nil) w

theorem cells30 : Try.prog.cellsOf 30 = 3 := by kernel_rfl
theorem cells3 : Try.prog.cellsOf 3 = 1 := by kernel_rfl
/-- WHAT THE WALK GIVES, FOR EVERY ARGUMENT. -/
theorem contract (H : Type) (enc : TypeId × Value → H) (W : World) (base : Nat) (args : Array Value) (ds gs : List (DataW H)) (before : List MemPlace)
    (hval : ∀ (j : Nat) t v, Try.f7.params[j]? = some t → args[j]? = some v → Value.okWide Try.prog W .any base t v)
    (hW : DataW.Whole enc Try.prog Try.f7.params.toList Rows.storeNobodySpec.vars false W args.toList ds gs before) :
    Calls Try.prog 7 args W fun e W' => ∃ v, e = .returned v ∧ Rows.storeNobodySpec.post enc Try.prog Try.f7 false true false false W args v W' := by
  have hW' := hW
  obtain ⟨p, q, hA0, hV, rfl, hfz, hnd⟩ := hW
  have hA : DataW.TrodAll enc Try.prog W 0 (fun _ => true) true Try.f7.params.toList args.toList ds p := hA0
  rw [Try.params7] at hA hval
  obtain ⟨v0, vs0, d0, ds0, p0, q0, hargs, rfl, rfl, h0, r0⟩ := trodAll_cons hA
  obtain ⟨rfl, rfl, rfl⟩ := trodAll_nil r0
  obtain rfl : args = #[v0] := by cases args; simp_all
  obtain ⟨rfl, rfl⟩ := trodVars_none hV
  have hv0 := hval 0 30 v0 rfl rfl
  simp only [Value.okWide, Try.underlying30] at hv0
  obtain ⟨cs, rfl, hcs, _⟩ := hv0
  obtain ⟨fuel, hf⟩ := h0
  have hf0 := hf
  obtain ⟨y0, y1, y2, n, hx, hl, hy0, hy1, hy2⟩ := trod_struct3 Try.underlying30 hf
  obtain ⟨cs⟩ := cs
  simp only [Value.cells] at hl hy0 hy1 hy2 hf0
  rw [cells30] at hl
  match cs, hl with
  | [c0, c1, c2], _ =>
  simp only [cells3, List.drop_zero, List.drop_succ_cons, List.take_succ_cons, List.take_zero] at hy0 hy1 hy2
  obtain ⟨a, ea, rfl, ha⟩ := DataW.trod_int Try.underlying3 hy0
  obtain ⟨b, eb, rfl, hb⟩ := DataW.trod_int Try.underlying3 hy1
  obtain ⟨c, ec, rfl, hc⟩ := DataW.trod_int Try.underlying3 hy2
  simp only [List.cons.injEq, and_true] at ea eb ec
  subst ea; subst eb; subst ec
  simp only [Prod.mk.injEq, List.append_nil] at hx
  obtain ⟨rfl, rfl⟩ := hx
  simp only [List.append_nil] at hW'
  have again : ∀ (W2 : World) (sp : Nat → Bool), DataW.Trod enc Try.prog W2 0 sp true 30 (.agg ⟨[.int .i64 a, .int .i64 b, .int .i64 c]⟩) (.agg [.lit (.int .i64 a), .lit (.int .i64 b), .lit (.int .i64 c)]) [] := by
    intro W2 sp
    refine ⟨2, ?_⟩
    have := trod_struct_mk (enc := enc) (P := Try.prog) (w := W2) (base := 0) (spare := sp) (held := true) (n := 1) (t := 30) (cs := [.int .i64 a, .int .i64 b, .int .i64 c]) (xs := [(.lit (.int .i64 a), []), (.lit (.int .i64 b), []), (.lit (.int .i64 c), [])]) Try.underlying30 (by rw [cells30]; rfl) (by
      simp [cells3, DataW.trod, Try.underlying3, ha, hb, hc])
    simpa [Value.cells] using this
  refine (walk a b c W).mono fun e W' ⟨he, hk⟩ => ?_
  subst he
  exact ⟨_, rfl, post_plain hW' (fun _ _ _ => trodAll_cons_mk (shut_bool Try.underlying4 _) trodAll_mk0) (fun sp => trodAll_cons_mk (again W' sp) trodAll_mk0) (fun _ => rfl) hk (ok_one (by kernel_rfl) rfl (okWide_bool_mk Try.underlying4 _))⟩

theorem laid_met (os : Os) : laidMet Try.prog Rows.storeNobodyRow.laid ((World.holding Try.prog os ⟨#[], #[], []⟩).forCall (fun _ _ => 0) ⟨#[], #[.agg #[.int .i64 0, .int .i64 0, .int .i64 0]], []⟩).memory :=
  laidMet_of_run' 8 (by kernel_rfl) (by kernel_rfl)
theorem reads (os : Os) {H : Type} (enc : TypeId × Value → H) : ∃ places, DataW.whole enc Try.prog ((World.holding Try.prog os ⟨#[], #[], []⟩).forCall (fun _ _ => 0) ⟨#[], #[.agg #[.int .i64 0, .int .i64 0, .int .i64 0]], []⟩).memory Try.f7.params.toList Rows.storeNobodySpec.vars false #[Value.agg #[.int .i64 0, .int .i64 0, .int .i64 0]].toList 8 = some ([.agg [.lit (.int .i64 0), .lit (.int .i64 0), .lit (.int .i64 0)]], [], places) :=
  ⟨[], by kernel_rfl⟩
theorem lifted (os : Os) (started : os.Started) (H : Type) (enc : TypeId × Value → H) (F : Stop.Interp) :
    ReturnsInHanded {} Try.checked os 7 .any ((OpenSpec.ofChange Rows.storeNobodySpec).preRow enc Try.prog Try.f7 Rows.storeNobodyRow.domain false Rows.storeNobodyRow.laid) (((OpenSpec.ofChange Rows.storeNobodySpec).at F).post enc Try.prog Try.f7 false true false false) := by
  obtain ⟨places, hx⟩ := reads os enc
  refine returnsInHanded_of_row (C := Try.checked) (s := OpenSpec.ofChange Rows.storeNobodySpec) own started (by kernel_rfl) Try.func7
    (witness_row_at (enc := enc) (C := Try.checked) false (World.holding Try.prog os ⟨#[], #[], []⟩) #[.agg #[.int .i64 0, .int .i64 0, .int .i64 0]] rfl (by kernel_rfl) (by kernel_rfl) (by kernel_rfl)
      (OpenSpec.preRow_of_cond 8 hx (by kernel_rfl) (fun k hk => by cases hk) (by kernel_rfl) (laid_met os))) ?_
  intro W base args ds gs before hval hW _ _ _ _ _ _
  exact contract H enc W base args ds gs before hval hW
theorem proved : Rows.StoreNobodySaid :=
  OpenClaim.holds_of_cond 7 Try.f7 rfl rfl rfl rfl rfl rfl rfl ⟨rfl, rfl, rfl, rfl, rfl⟩ rfl rfl rfl rfl rfl (by kernel_rfl) Try.func7 (by kernel_rfl)
    (of_decide_eq_true (by kernel_rfl)) (by unfold Func.isWrapper; first | (rw [if_pos (by decide +kernel)]; kernel_rfl) | (rw [if_neg (by decide +kernel)]; exact ⟨rfl, rfl⟩))
    (fun os started H enc _ F => by rw [OpenClaim.pre_eq_preRow]; exact lifted os started H enc F)
end Go.Proofs.Ytnmajohhfcgddaa.storeNobody
