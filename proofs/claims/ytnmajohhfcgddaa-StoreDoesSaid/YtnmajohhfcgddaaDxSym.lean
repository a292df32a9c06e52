/- A part. -/
import Derived.Test.YtnmajohhfcgddaaDxCall
set_option linter.unusedVariables false
set_option linter.unusedSimpArgs false
set_option linter.unusedSectionVars false
namespace Go.Dx
open Go
theorem Ss {call : Zn} {o : Z1} {rest : List Z1} {t : PT Value} {s : DS} (d : Option Nat) (op : DOp) (h : o = ⟨d, op, none, [], false⟩) :
 Wp call (o :: rest) [] t s = (match dop call (ev t) s op with | some (v, s') => Wp call rest [] (YQ t d v) s' | none => none) := by
 subst h
 simp only [Wp, ZL, if_true]
 rfl
theorem Wx {call : Zn} {rest : List Z1} {t : PT Value} {s : DS} (d : Option Nat) (op : DOp) :
 Wp call (⟨d, op, none, [], false⟩ :: rest) [] t s = (match dop call (ev t) s op with | some (v, s') => Wp call rest [] (YQ t d v) s' | none => none) := Ss d op rfl
theorem Xw {call : Zn} {nt : List Xf} {t : PT Value} {s : DS} : Wp call [] nt t s = some (t, s) := rfl
theorem Xs {call : Zn} {rest : List Z1} {t : PT Value} {s : DS} (d : Option Nat) (op : DOp) (g : Nat) (b : Bool) :
 Wp call (⟨d, op, some (g, b), [], false⟩ :: rest) [] t s = if ZL t (some (g, b)) then (match dop call (ev t) s op with | some (v, s') => Wp call rest [] (YQ t d v) s' | none => none) else Wp call rest [] (YQ t d ZC) s := by
 simp only [Wp]
 rfl
theorem zn (l : List Value) (i : Nat) : (Qe l).get i = l[i]? := Gt l i
def W6 (E : Env) (d : Nat) (fn : Zc) (args : List Value) (s : DS) : Option (Value × DS) :=
 match Zq (dcall E d) E.lf false fn.body ⟨Qe args, s, []⟩ with
 | some (.exit _, _) => none
 | some (_, x) => match ZS x.s x.defers with
  | some s' => match zw x.t s' fn.results with
   | some vs => some (zG vs, s')
   | none => none
  | none => none
 | none => none
theorem Xy {E : Env} {d g : Nat} {fn : Zc} {args : List Value} {s : DS} (hi : E.intr g = none) (hf : E.fn g = some fn) (hl : Nat.ble args.length fn.ntmps = true) :
 dcall E (d + 1) (.func (.func g) #[] #[]) args s = W6 E d fn args s := by
 simp only [dcall, List.append_nil, List.nil_append, hi, hf, hl, if_true]
 rfl
end Go.Dx
