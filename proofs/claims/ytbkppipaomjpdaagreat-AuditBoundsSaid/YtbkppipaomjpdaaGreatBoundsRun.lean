/- AuditBounds returns true for every input, and leaves what it was given as it was. -/
import Derived.Test.YtbkppipaomjpdaaGreatRows
import Derived.Test.YtbkppipaomjpdaaGreatDxAb
import Derived.Test.YtbkppipaomjpdaaGreatDxRow
import Derived.Test.YtbkppipaomjpdaaGreatDxSorted
import Derived.Shelf.SortM.Plain
import Derived.Shelf.SortM.SortNone
import Derived.Shelf.Lays2
import Derived.Test.YtbkppipaomjpdaaGreatDxIns
import Derived.Test.YtbkppipaomjpdaaGreatDxStir
import Derived.Test.YtbkppipaomjpdaaGreatDxBounds
namespace Go.Proofs.YtbkppipaomjpdaaGreat.auditBounds
open Go.ChangeShapes Go.WideShapes Go.ChangeAt Go.RowKit Go.Dx Go.Shelf
set_option linter.unusedVariables false
set_option linter.unusedSimpArgs false
set_option maxRecDepth 100000
set_option maxHeartbeats 4000000

/-! ### The evaluator's tables -/
inductive BT where
  | leaf
  | node (k : Nat) (d : DFunc) (l r : BT)
def BT.find : BT → Nat → Option DFunc
  | .leaf, _ => none
  | .node k d l r, x => bif Nat.beq x k then some d else bif Nat.blt x k then l.find x else r.find x
def BT.All (Q : Nat → DFunc → Prop) : BT → Prop
  | .leaf => True
  | .node k d l r => Q k d ∧ l.All Q ∧ r.All Q
theorem BT.find_all {Q : Nat → DFunc → Prop} : ∀ {t : BT} {x : Nat} {d : DFunc}, t.All Q → t.find x = some d → Q x d
  | .leaf, x, d, _, h => by cases h
  | .node k d0 l r, x, d, ⟨h1, h2, h3⟩, h => by
    unfold BT.find at h
    cases hb : Nat.beq x k with
    | true =>
      rw [hb] at h
      simp only [cond_true, Option.some.injEq] at h
      subst h
      rw [Nat.eq_of_beq_eq_true hb]; exact h1
    | false =>
      rw [hb] at h
      cases hl : Nat.blt x k with
      | true => rw [hl] at h; exact BT.find_all h2 h
      | false => rw [hl] at h; exact BT.find_all h3 h
def FnOk (k : Nat) (df : DFunc) : Prop := ∃ f, Tryz.prog.funcs[k]? = some f ∧ trFunc Tryz.prog f = some df
def tab : BT := (.node 61 d61 (.node 30 d30 (.node 15 d15 (.node 9 d9 (.node 6 d6 (.node 5 d5 (.node 3 d3 .leaf .leaf) .leaf) (.node 8 d8 (.node 7 d7 .leaf .leaf) .leaf)) (.node 12 d12 (.node 11 d11 (.node 10 d10 .leaf .leaf) .leaf) (.node 14 d14 (.node 13 d13 .leaf .leaf) .leaf))) (.node 23 d23 (.node 18 d18 (.node 17 d17 (.node 16 d16 .leaf .leaf) .leaf) (.node 22 d22 (.node 21 d21 .leaf .leaf) .leaf)) (.node 26 d26 (.node 25 d25 (.node 24 d24 .leaf .leaf) .leaf) (.node 29 d29 (.node 28 d28 .leaf .leaf) .leaf)))) (.node 48 d48 (.node 38 d38 (.node 33 d33 (.node 32 d32 (.node 31 d31 .leaf .leaf) .leaf) (.node 36 d36 (.node 35 d35 .leaf .leaf) .leaf)) (.node 42 d42 (.node 41 d41 (.node 39 d39 .leaf .leaf) .leaf) (.node 47 d47 (.node 43 d43 .leaf .leaf) .leaf))) (.node 55 d55 (.node 52 d52 (.node 51 d51 (.node 50 d50 .leaf .leaf) .leaf) (.node 54 d54 (.node 53 d53 .leaf .leaf) .leaf)) (.node 58 d58 (.node 57 d57 (.node 56 d56 .leaf .leaf) .leaf) (.node 60 d60 (.node 59 d59 .leaf .leaf) .leaf))))) (.node 104 d104 (.node 79 d79 (.node 71 d71 (.node 68 d68 (.node 67 d67 (.node 66 d66 .leaf .leaf) .leaf) (.node 70 d70 (.node 69 d69 .leaf .leaf) .leaf)) (.node 76 d76 (.node 75 d75 (.node 74 d74 .leaf .leaf) .leaf) (.node 78 d78 (.node 77 d77 .leaf .leaf) .leaf))) (.node 90 d90 (.node 87 d87 (.node 86 d86 (.node 80 d80 .leaf .leaf) .leaf) (.node 89 d89 (.node 88 d88 .leaf .leaf) .leaf)) (.node 93 d93 (.node 92 d92 (.node 91 d91 .leaf .leaf) .leaf) (.node 103 d103 (.node 94 d94 .leaf .leaf) .leaf)))) (.node 116 d116 (.node 110 d110 (.node 107 d107 (.node 106 d106 (.node 105 d105 .leaf .leaf) .leaf) (.node 109 d109 (.node 108 d108 .leaf .leaf) .leaf)) (.node 113 d113 (.node 112 d112 (.node 111 d111 .leaf .leaf) .leaf) (.node 115 d115 (.node 114 d114 .leaf .leaf) .leaf))) (.node 139 d139 (.node 119 d119 (.node 118 d118 (.node 117 d117 .leaf .leaf) .leaf) (.node 138 d138 (.node 136 d136 .leaf .leaf) .leaf)) (.node 156 d156 (.node 152 d152 (.node 146 d146 .leaf .leaf) .leaf) (.node 200 d200 (.node 199 d199 .leaf .leaf) .leaf))))))
theorem tab_ok : tab.All FnOk := ⟨⟨_, Tryz.func61, tr61⟩, ⟨⟨_, Tryz.func30, tr30⟩, ⟨⟨_, Tryz.func15, tr15⟩, ⟨⟨_, Tryz.func9, tr9⟩, ⟨⟨_, Tryz.func6, tr6⟩, ⟨⟨_, Tryz.func5, tr5⟩, ⟨⟨_, Tryz.func3, tr3⟩, trivial, trivial⟩, trivial⟩, ⟨⟨_, Tryz.func8, tr8⟩, ⟨⟨_, Tryz.func7, tr7⟩, trivial, trivial⟩, trivial⟩⟩, ⟨⟨_, Tryz.func12, tr12⟩, ⟨⟨_, Tryz.func11, tr11⟩, ⟨⟨_, Tryz.func10, tr10⟩, trivial, trivial⟩, trivial⟩, ⟨⟨_, Tryz.func14, tr14⟩, ⟨⟨_, Tryz.func13, tr13⟩, trivial, trivial⟩, trivial⟩⟩⟩, ⟨⟨_, Tryz.func23, tr23⟩, ⟨⟨_, Tryz.func18, tr18⟩, ⟨⟨_, Tryz.func17, tr17⟩, ⟨⟨_, Tryz.func16, tr16⟩, trivial, trivial⟩, trivial⟩, ⟨⟨_, Tryz.func22, tr22⟩, ⟨⟨_, Tryz.func21, tr21⟩, trivial, trivial⟩, trivial⟩⟩, ⟨⟨_, Tryz.func26, tr26⟩, ⟨⟨_, Tryz.func25, tr25⟩, ⟨⟨_, Tryz.func24, tr24⟩, trivial, trivial⟩, trivial⟩, ⟨⟨_, Tryz.func29, tr29⟩, ⟨⟨_, Tryz.func28, tr28⟩, trivial, trivial⟩, trivial⟩⟩⟩⟩, ⟨⟨_, Tryz.func48, tr48⟩, ⟨⟨_, Tryz.func38, tr38⟩, ⟨⟨_, Tryz.func33, tr33⟩, ⟨⟨_, Tryz.func32, tr32⟩, ⟨⟨_, Tryz.func31, tr31⟩, trivial, trivial⟩, trivial⟩, ⟨⟨_, Tryz.func36, tr36⟩, ⟨⟨_, Tryz.func35, tr35⟩, trivial, trivial⟩, trivial⟩⟩, ⟨⟨_, Tryz.func42, tr42⟩, ⟨⟨_, Tryz.func41, tr41⟩, ⟨⟨_, Tryz.func39, tr39⟩, trivial, trivial⟩, trivial⟩, ⟨⟨_, Tryz.func47, tr47⟩, ⟨⟨_, Tryz.func43, tr43⟩, trivial, trivial⟩, trivial⟩⟩⟩, ⟨⟨_, Tryz.func55, tr55⟩, ⟨⟨_, Tryz.func52, tr52⟩, ⟨⟨_, Tryz.func51, tr51⟩, ⟨⟨_, Tryz.func50, tr50⟩, trivial, trivial⟩, trivial⟩, ⟨⟨_, Tryz.func54, tr54⟩, ⟨⟨_, Tryz.func53, tr53⟩, trivial, trivial⟩, trivial⟩⟩, ⟨⟨_, Tryz.func58, tr58⟩, ⟨⟨_, Tryz.func57, tr57⟩, ⟨⟨_, Tryz.func56, tr56⟩, trivial, trivial⟩, trivial⟩, ⟨⟨_, Tryz.func60, tr60⟩, ⟨⟨_, Tryz.func59, tr59⟩, trivial, trivial⟩, trivial⟩⟩⟩⟩⟩, ⟨⟨_, Tryz.func104, tr104⟩, ⟨⟨_, Tryz.func79, tr79⟩, ⟨⟨_, Tryz.func71, tr71⟩, ⟨⟨_, Tryz.func68, tr68⟩, ⟨⟨_, Tryz.func67, tr67⟩, ⟨⟨_, Tryz.func66, tr66⟩, trivial, trivial⟩, trivial⟩, ⟨⟨_, Tryz.func70, tr70⟩, ⟨⟨_, Tryz.func69, tr69⟩, trivial, trivial⟩, trivial⟩⟩, ⟨⟨_, Tryz.func76, tr76⟩, ⟨⟨_, Tryz.func75, tr75⟩, ⟨⟨_, Tryz.func74, tr74⟩, trivial, trivial⟩, trivial⟩, ⟨⟨_, Tryz.func78, tr78⟩, ⟨⟨_, Tryz.func77, tr77⟩, trivial, trivial⟩, trivial⟩⟩⟩, ⟨⟨_, Tryz.func90, tr90⟩, ⟨⟨_, Tryz.func87, tr87⟩, ⟨⟨_, Tryz.func86, tr86⟩, ⟨⟨_, Tryz.func80, tr80⟩, trivial, trivial⟩, trivial⟩, ⟨⟨_, Tryz.func89, tr89⟩, ⟨⟨_, Tryz.func88, tr88⟩, trivial, trivial⟩, trivial⟩⟩, ⟨⟨_, Tryz.func93, tr93⟩, ⟨⟨_, Tryz.func92, tr92⟩, ⟨⟨_, Tryz.func91, tr91⟩, trivial, trivial⟩, trivial⟩, ⟨⟨_, Tryz.func103, tr103⟩, ⟨⟨_, Tryz.func94, tr94⟩, trivial, trivial⟩, trivial⟩⟩⟩⟩, ⟨⟨_, Tryz.func116, tr116⟩, ⟨⟨_, Tryz.func110, tr110⟩, ⟨⟨_, Tryz.func107, tr107⟩, ⟨⟨_, Tryz.func106, tr106⟩, ⟨⟨_, Tryz.func105, tr105⟩, trivial, trivial⟩, trivial⟩, ⟨⟨_, Tryz.func109, tr109⟩, ⟨⟨_, Tryz.func108, tr108⟩, trivial, trivial⟩, trivial⟩⟩, ⟨⟨_, Tryz.func113, tr113⟩, ⟨⟨_, Tryz.func112, tr112⟩, ⟨⟨_, Tryz.func111, tr111⟩, trivial, trivial⟩, trivial⟩, ⟨⟨_, Tryz.func115, tr115⟩, ⟨⟨_, Tryz.func114, tr114⟩, trivial, trivial⟩, trivial⟩⟩⟩, ⟨⟨_, Tryz.func139, tr139⟩, ⟨⟨_, Tryz.func119, tr119⟩, ⟨⟨_, Tryz.func118, tr118⟩, ⟨⟨_, Tryz.func117, tr117⟩, trivial, trivial⟩, trivial⟩, ⟨⟨_, Tryz.func138, tr138⟩, ⟨⟨_, Tryz.func136, tr136⟩, trivial, trivial⟩, trivial⟩⟩, ⟨⟨_, Tryz.func156, tr156⟩, ⟨⟨_, Tryz.func152, tr152⟩, ⟨⟨_, Tryz.func146, tr146⟩, trivial, trivial⟩, trivial⟩, ⟨⟨_, Tryz.func200, tr200⟩, ⟨⟨_, Tryz.func199, tr199⟩, trivial, trivial⟩, trivial⟩⟩⟩⟩⟩⟩

theorem bears_auto {P : Program} {f : FuncId} {B : Func} (h1 : (((P.funcs[f]?).getD default).name == "runtime.NumGoroutine") = false) (h2 : P.funcs[f]? = some { B with name := ((P.funcs[f]?).getD default).name }) : Go.Proofs.Bears P f B := ⟨_, h1, h2⟩
def renS : Ren := { f := fun n => match n with | 5 => 144 | 7 => 204 | 8 => 205 | 10 => 262 | 11 => 263 | 12 => 264 | 13 => 265 | 14 => 266 | 15 => 267 | 16 => 268 | 17 => 269 | 18 => 270 | 19 => 271 | 20 => 272 | 30 => 319 | 31 => 320 | 32 => 321 | 33 => 322 | 34 => 323 | 35 => 324 | 40 => 354 | n => n, t := fun n => match n with | 0 => 0 | 3 => 3 | 4 => 4 | 5 => 5 | 9 => 9 | 22 => 39 | 23 => 39 | 25 => 3 | 32 => 205 | 35 => 480 | 36 => 481 | 41 => 100 | 44 => 195 | 46 => 199 | 53 => 520 | 57 => 517 | 63 => 543 | 64 => 544 | n => n, g := fun n => n }
theorem laysS : SlLaysM.n5 Tryz.prog renS := by
  constructor
  all_goals first
    | kernel_rfl
    | (intro w; kernel_rfl)
    | exact bears_auto (by kernel_rfl) (by kernel_rfl)
def renK0 : Ren := { f := fun n => match n with | 6 => 111 | 7 => 112 | 8 => 143 | 9 => 144 | 10 => 145 | 11 => 203 | n => n, t := fun n => match n with | 0 => 0 | 3 => 157 | 4 => 4 | 5 => 5 | 9 => 9 | 23 => 152 | 24 => 39 | 26 => 3 | 27 => 182 | 28 => 183 | 33 => 29 | 37 => 205 | 39 => 480 | 40 => 481 | 45 => 100 | 48 => 195 | 50 => 199 | 51 => 520 | 55 => 517 | 57 => 543 | 58 => 544 | n => n, g := fun n => n }
theorem laysK0 : SlLaysZI.n7 Tryz.prog renK0 := by
  constructor
  all_goals first
    | kernel_rfl
    | (intro w; kernel_rfl)
    | exact bears_auto (by kernel_rfl) (by kernel_rfl)
theorem laysO : SlLaysZI.n6 Tryz.prog renK0 := by
  constructor
  all_goals first
    | kernel_rfl
    | (intro w; kernel_rfl)
    | exact bears_auto (by kernel_rfl) (by kernel_rfl)
theorem sorts (m : Nat) : Go.Proofs.AnyZI.SortsIn Tryz.prog renK0 Fence.wide m :=
  ⟨fun blk off cap ss W hH hblk hsz => callsIn_wide.2 (Go.Proofs.AnyM.slices_Sort_int laysS blk off cap ss W hH hblk hsz), fun p cap W => callsIn_wide.2 (Go.Proofs.AnyM.slices_Sort_int_none laysS p cap W)⟩
def renK1 : Ren := { f := fun n => match n with | 6 => 111 | 7 => 189 | 8 => 143 | 9 => 144 | 10 => 259 | 11 => 203 | n => n, t := fun n => match n with | 0 => 0 | 3 => 329 | 4 => 4 | 5 => 5 | 9 => 9 | 23 => 317 | 24 => 39 | 26 => 3 | 27 => 182 | 28 => 183 | 33 => 29 | 37 => 205 | 39 => 480 | 40 => 481 | 45 => 100 | 48 => 195 | 50 => 199 | 51 => 520 | 55 => 517 | 57 => 543 | 58 => 544 | n => n, g := fun n => n }
theorem laysK1 : SlLaysZI.n7 Tryz.prog renK1 := by
  constructor
  all_goals first
    | kernel_rfl
    | (intro w; kernel_rfl)
    | exact bears_auto (by kernel_rfl) (by kernel_rfl)
theorem laysO1 : SlLaysZI.n6 Tryz.prog renK1 := by
  constructor
  all_goals first
    | kernel_rfl
    | (intro w; kernel_rfl)
    | exact bears_auto (by kernel_rfl) (by kernel_rfl)
theorem sorts1 (m : Nat) : Go.Proofs.AnyZI.SortsIn Tryz.prog renK1 Fence.wide m :=
  ⟨fun blk off cap ss W hH hblk hsz => callsIn_wide.2 (Go.Proofs.AnyM.slices_Sort_int laysS blk off cap ss W hH hblk hsz), fun p cap W => callsIn_wide.2 (Go.Proofs.AnyM.slices_Sort_int_none laysS p cap W)⟩
def renI : Ren := { f := fun n => match n with | 21 => 261 | 27 => 317 | 28 => 318 | 35 => 353 | 39 => 231 | n => n, t := fun n => match n with | 22 => 39 | n => n, g := fun n => n }
theorem laysI : Lays2.n21 Tryz.prog renI := by
  constructor
  all_goals first
    | kernel_rfl
    | (intro w; kernel_rfl)
theorem stirOk : IntrOk Tryz.prog 120 stirX :=
  stirX_ok (r := 159) (by kernel_rfl) (by kernel_rfl) Tryz.func120 (by kernel_rfl) Tryz.func159 (by kernel_rfl) (fun X w => callFunc_run Tryz.func120 (by kernel_rfl) (by kernel_rfl) X w)
noncomputable def env : Env := { fn := tab.find, intr := fun k => bif Nat.beq k 112 then some (fun all s => keysD all 145 s) else bif Nat.beq k 189 then some (fun all s => keysD all 259 s) else bif Nat.beq k 111 then some (fun a s => match (fun all s => sortedD 145 all s) a s with | some r => some r | none => (fun all s => sortedD 259 all s) a s) else bif Nat.beq k 261 then some (insD) else bif Nat.beq k 120 then some (stirX) else none, lf := 100000 }
theorem env_ok : EnvOk Tryz.prog env := by
  refine ⟨by kernel_rfl, fun k df h => BT.find_all tab_ok h, fun k F h => ?_⟩
  have h : (bif Nat.beq k 112 then some (fun all s => keysD all 145 s) else bif Nat.beq k 189 then some (fun all s => keysD all 259 s) else bif Nat.beq k 111 then some (fun a s => match (fun all s => sortedD 145 all s) a s with | some r => some r | none => (fun all s => sortedD 259 all s) a s) else bif Nat.beq k 261 then some (insD) else bif Nat.beq k 120 then some (stirX) else none) = some F := h
  cases hb112 : Nat.beq k 112 with
  | true =>
    rw [hb112] at h
    simp only [cond_true, Option.some.injEq] at h
    subst h
    rw [Nat.eq_of_beq_eq_true hb112]
    exact keys_ok (ρ := renK0) laysK0 (fun X w => callFunc_run Tryz.func112 (by kernel_rfl) (by kernel_rfl) X w)
  | false =>
    rw [hb112] at h
    simp only [cond_false] at h
    cases hb189 : Nat.beq k 189 with
    | true =>
      rw [hb189] at h
      simp only [cond_true, Option.some.injEq] at h
      subst h
      rw [Nat.eq_of_beq_eq_true hb189]
      exact keys_ok (ρ := renK1) laysK1 (fun X w => callFunc_run Tryz.func189 (by kernel_rfl) (by kernel_rfl) X w)
    | false =>
      rw [hb189] at h
      simp only [cond_false] at h
      cases hb111 : Nat.beq k 111 with
      | true =>
        rw [hb111] at h
        simp only [cond_true, Option.some.injEq] at h
        subst h
        rw [Nat.eq_of_beq_eq_true hb111]
        exact IntrOk.or (sorted_ok (ρ := renK0) laysO { laysK0 with } sorts (fun X w => callFunc_run Tryz.func144 (by kernel_rfl) (by kernel_rfl) X w) (fun X w => callFunc_run Tryz.func111 (by kernel_rfl) (by kernel_rfl) X w)) (sorted_ok (ρ := renK1) laysO1 { laysK1 with } sorts1 (fun X w => callFunc_run Tryz.func144 (by kernel_rfl) (by kernel_rfl) X w) (fun X w => callFunc_run Tryz.func111 (by kernel_rfl) (by kernel_rfl) X w))
      | false =>
        rw [hb111] at h
        simp only [cond_false] at h
        cases hb261 : Nat.beq k 261 with
        | true =>
          rw [hb261] at h
          simp only [cond_true, Option.some.injEq] at h
          subst h
          rw [Nat.eq_of_beq_eq_true hb261]
          exact ins_ok (ρ := renI) laysI (fun X w => callFunc_run Tryz.func261 (by kernel_rfl) (by kernel_rfl) X w)
        | false =>
          rw [hb261] at h
          simp only [cond_false] at h
          cases hb120 : Nat.beq k 120 with
          | true =>
            rw [hb120] at h
            simp only [cond_true, Option.some.injEq] at h
            subst h
            rw [Nat.eq_of_beq_eq_true hb120]
            exact stirOk
          | false =>
            rw [hb120] at h
            simp only [cond_false] at h
            cases h

theorem livesRun : okOf (xcall env 200 (.func (.func 6) #[] #[]) [] s0) = true := by kernel_rfl
theorem livesCall (W : World) : Calls Tryz.prog 6 #[] W fun e w' => e = .returned (.bool true) ∧ Kept W w' := top env_ok livesRun (fun _ => .nil) W
theorem env2_ok : EnvOk Tryz.prog bounds.E := by
  refine ⟨by kernel_rfl, fun k df h => ?_, fun k F h => ?_⟩
  · have h : bounds.fnT k = some df := h
    unfold bounds.fnT at h
    split at h
    · cases h; exact ⟨_, Tryz.func3, tr3⟩
    · cases h; exact ⟨_, Tryz.func5, tr5⟩
    · cases h
  · have h : bounds.intrT k = some F := h
    unfold bounds.intrT at h
    split at h
    · cases h; exact trueD_ok livesCall (fun X w => callFunc_run Tryz.func6 (by kernel_rfl) (by kernel_rfl) X w)
    · cases h
theorem upto {a : Int} (h : IntKind.i64.has a) : a < 9223372036854775808 := by
  have := h.2
  simp [IntKind.max, IntKind.bits, IntKind.signed] at this
  omega
theorem walk (a0 a1 a2 : Int) (u0 : IntKind.i64.has a0) (u1 : IntKind.i64.has a1) (u2 : IntKind.i64.has a2) (w : World) : Calls Tryz.prog 3 #[.int .i64 a0, .int .i64 a1, .int .i64 a2] w fun e w' => e = .returned (.bool true) ∧ Kept w w' :=
  top_d env2_ok (bounds.run3 a0 a1 a2 (upto u0) (upto u1) (upto u2) s0 0) (fun _ => .cons (.int _ _) (.cons (.int _ _) (.cons (.int _ _) .nil))) w
end Go.Proofs.YtbkppipaomjpdaaGreat.auditBounds
