/- A part. -/
import Derived.Test.YtffgmngdgkpflaaGreatDxCall
set_option linter.unusedVariables false
set_option linter.unusedSimpArgs false
set_option linter.unusedSectionVars false
namespace Go.Dx
open Go
theorem Ng {call : Zg} {o : Ya} {rest : List Ya} {t : PT Value} {s : DS} (d : Option Nat) (op : DOp) (h : o = ⟨d, op, none, [], false⟩) :
 XY call (o :: rest) [] t s = (match dop call (ev t) s op with | some (v, s') => XY call rest [] (Xx t d v) s' | none => none) := by
 subst h
 simp only [XY, ZT, if_true]
 rfl
theorem Gz {call : Zg} {rest : List Ya} {t : PT Value} {s : DS} (d : Option Nat) (op : DOp) :
 XY call (⟨d, op, none, [], false⟩ :: rest) [] t s = (match dop call (ev t) s op with | some (v, s') => XY call rest [] (Xx t d v) s' | none => none) := Ng d op rfl
theorem KX {call : Zg} {nt : List YS} {t : PT Value} {s : DS} : XY call [] nt t s = some (t, s) := rfl
theorem J5 {call : Zg} {rest : List Ya} {t : PT Value} {s : DS} (d : Option Nat) (op : DOp) (g : Nat) (b : Bool) :
 XY call (⟨d, op, some (g, b), [], false⟩ :: rest) [] t s = if ZT t (some (g, b)) then (match dop call (ev t) s op with | some (v, s') => XY call rest [] (Xx t d v) s' | none => none) else XY call rest [] (Xx t d Zt) s := by
 simp only [XY]
 rfl
theorem zh (l : List Value) (i : Nat) : (JC l).get i = l[i]? := Fq l i
def QQ (E : Env) (d : Nat) (fn : z7) (args : List Value) (s : DS) : Option (Value × DS) :=
 match Zz (dcall E d) E.lf false fn.body ⟨JC args, s, []⟩ with
 | some (.exit _, _) => none
 | some (_, x) => match Yn x.s x.defers with
  | some s' => match zn x.t s' fn.results with
   | some vs => some (zy vs, s')
   | none => none
  | none => none
 | none => none
theorem Qp {E : Env} {d g : Nat} {fn : z7} {args : List Value} {s : DS} (hi : E.intr g = none) (hf : E.fn g = some fn) (hl : Nat.ble args.length fn.ntmps = true) :
 dcall E (d + 1) (.func (.func g) #[] #[]) args s = QQ E d fn args s := by
 simp only [dcall, List.append_nil, List.nil_append, hi, hf, hl, if_true]
 rfl
end Go.Dx
