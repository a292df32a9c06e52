/- A part. -/
import Derived.Test.YthmgnfeljhdioaaGreatDxCall
set_option linter.unusedVariables false
set_option linter.unusedSimpArgs false
set_option linter.unusedSectionVars false
namespace Go.Dx
open Go
theorem SC {call : zn} {o : zK} {rest : List zK} {t : PT Value} {s : DS} (d : Option Nat) (op : DOp) (h : o = ⟨d, op, none, [], false⟩) :
 Z0 call (o :: rest) [] t s = (match dop call (ev t) s op with | some (v, s') => Z0 call rest [] (ZJ t d v) s' | none => none) := by
 subst h
 simp only [Z0, zE, if_true]
 rfl
theorem V2 {call : zn} {rest : List zK} {t : PT Value} {s : DS} (d : Option Nat) (op : DOp) :
 Z0 call (⟨d, op, none, [], false⟩ :: rest) [] t s = (match dop call (ev t) s op with | some (v, s') => Z0 call rest [] (ZJ t d v) s' | none => none) := SC d op rfl
theorem JY {call : zn} {nt : List Zw} {t : PT Value} {s : DS} : Z0 call [] nt t s = some (t, s) := rfl
theorem W4 {call : zn} {rest : List zK} {t : PT Value} {s : DS} (d : Option Nat) (op : DOp) (g : Nat) (b : Bool) :
 Z0 call (⟨d, op, some (g, b), [], false⟩ :: rest) [] t s = if zE t (some (g, b)) then (match dop call (ev t) s op with | some (v, s') => Z0 call rest [] (ZJ t d v) s' | none => none) else Z0 call rest [] (ZJ t d zv) s := by
 simp only [Z0]
 rfl
theorem Wm (l : List Value) (i : Nat) : (WE l).get i = l[i]? := KK l i
def Gn (E : Env) (d : Nat) (fn : zf) (args : List Value) (s : DS) : Option (Value × DS) :=
 match zw (dcall E d) E.lf false fn.body ⟨WE args, s, []⟩ with
 | some (.exit _, _) => none
 | some (_, x) => match Zb x.s x.defers with
  | some s' => match za x.t s' fn.results with
   | some vs => some (ze vs, s')
   | none => none
  | none => none
 | none => none
theorem GP {E : Env} {d g : Nat} {fn : zf} {args : List Value} {s : DS} (hi : E.intr g = none) (hf : E.fn g = some fn) (hl : Nat.ble args.length fn.ntmps = true) :
 dcall E (d + 1) (.func (.func g) #[] #[]) args s = Gn E d fn args s := by
 simp only [dcall, List.append_nil, List.nil_append, hi, hf, hl, if_true]
 rfl
end Go.Dx
