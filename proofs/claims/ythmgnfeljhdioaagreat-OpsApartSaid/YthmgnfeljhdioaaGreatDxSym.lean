/- A part. -/
import Derived.Test.YthmgnfeljhdioaaGreatDxCall
set_option linter.unusedVariables false
set_option linter.unusedSimpArgs false
set_option linter.unusedSectionVars false
namespace Go.Dx
open Go
theorem Cm {call : zg} {o : zw} {rest : List zw} {t : PT Value} {s : DS} (d : Option Nat) (op : DOp) (h : o = ⟨d, op, none, [], false⟩) :
 ZD call (o :: rest) [] t s = (match dop call (ev t) s op with | some (v, s') => ZD call rest [] (Zn t d v) s' | none => none) := by
 subst h
 simp only [ZD, zr, if_true]
 rfl
theorem KU {call : zg} {rest : List zw} {t : PT Value} {s : DS} (d : Option Nat) (op : DOp) :
 ZD call (⟨d, op, none, [], false⟩ :: rest) [] t s = (match dop call (ev t) s op with | some (v, s') => ZD call rest [] (Zn t d v) s' | none => none) := Cm d op rfl
theorem QW {call : zg} {nt : List Zc} {t : PT Value} {s : DS} : ZD call [] nt t s = some (t, s) := rfl
theorem XQ {call : zg} {rest : List zw} {t : PT Value} {s : DS} (d : Option Nat) (op : DOp) (g : Nat) (b : Bool) :
 ZD call (⟨d, op, some (g, b), [], false⟩ :: rest) [] t s = if zr t (some (g, b)) then (match dop call (ev t) s op with | some (v, s') => ZD call rest [] (Zn t d v) s' | none => none) else ZD call rest [] (Zn t d zl) s := by
 simp only [ZD]
 rfl
theorem Xg (l : List Value) (i : Nat) : (Xs l).get i = l[i]? := JK l i
def Ve (E : Env) (d : Nat) (fn : zd) (args : List Value) (s : DS) : Option (Value × DS) :=
 match zo (dcall E d) E.lf false fn.body ⟨Xs args, s, []⟩ with
 | some (.exit _, _) => none
 | some (_, x) => match zR x.s x.defers with
  | some s' => match ze x.t s' fn.results with
   | some vs => some (zh vs, s')
   | none => none
  | none => none
 | none => none
theorem VA {E : Env} {d g : Nat} {fn : zd} {args : List Value} {s : DS} (hi : E.intr g = none) (hf : E.fn g = some fn) (hl : Nat.ble args.length fn.ntmps = true) :
 dcall E (d + 1) (.func (.func g) #[] #[]) args s = Ve E d fn args s := by
 simp only [dcall, List.append_nil, List.nil_append, hi, hf, hl, if_true]
 rfl
end Go.Dx
