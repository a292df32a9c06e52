/- Going through D-code with free numbers: rules for simp. -/
import Derived.Test.YtnmajohhfcgddaaDxCall
set_option linter.unusedVariables false
set_option linter.unusedSimpArgs false
set_option linter.unusedSectionVars false
namespace Go.Dx
open Go
theorem sym_cons {call : CallFn} {o : DOper} {rest : List DOper} {t : PT Value} {s : DS} (d : Option Nat) (op : DOp) (h : o = ⟨d, op, none, [], false⟩) :
    dops call (o :: rest) [] t s = (match dop call (ev t) s op with | some (v, s') => dops call rest [] (putT t d v) s' | none => none) := by
  subst h
  simp only [dops, wantedD, if_true]
  rfl
theorem sym_op {call : CallFn} {rest : List DOper} {t : PT Value} {s : DS} (d : Option Nat) (op : DOp) :
    dops call (⟨d, op, none, [], false⟩ :: rest) [] t s = (match dop call (ev t) s op with | some (v, s') => dops call rest [] (putT t d v) s' | none => none) := sym_cons d op rfl
theorem sym_nil {call : CallFn} {nt : List Note} {t : PT Value} {s : DS} : dops call [] nt t s = some (t, s) := rfl
theorem sym_guard {call : CallFn} {rest : List DOper} {t : PT Value} {s : DS} (d : Option Nat) (op : DOp) (g : Nat) (b : Bool) :
    dops call (⟨d, op, some (g, b), [], false⟩ :: rest) [] t s = if wantedD t (some (g, b)) then (match dop call (ev t) s op with | some (v, s') => dops call rest [] (putT t d v) s' | none => none) else dops call rest [] (putT t d undefD) s := by
  simp only [dops]
  rfl
theorem argsT_nil : argsT [] = .nil := rfl
theorem ofList_get (l : List Value) (i : Nat) : (argsT l).get i = l[i]? := get_ofList l i
/-- a function's run -/
def entered (E : Env) (d : Nat) (fn : DFunc) (args : List Value) (s : DS) : Option (Value × DS) :=
  match dcode (dcall E d) E.lf false fn.body ⟨argsT args, s, []⟩ with
  | some (.exit _, _) => none
  | some (_, x) => match killAll x.s x.defers with
    | some s' => match dresults x.t s' fn.results with
      | some vs => some (tupled vs, s')
      | none => none
    | none => none
  | none => none
theorem sym_call {E : Env} {d g : Nat} {fn : DFunc} {args : List Value} {s : DS} (hi : E.intr g = none) (hf : E.fn g = some fn) (hl : Nat.ble args.length fn.ntmps = true) :
    dcall E (d + 1) (.func (.func g) #[] #[]) args s = entered E d fn args s := by
  simp only [dcall, List.append_nil, List.nil_append, hi, hf, hl, if_true]
  rfl
end Go.Dx
