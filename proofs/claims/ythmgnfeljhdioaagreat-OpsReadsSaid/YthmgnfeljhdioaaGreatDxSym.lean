/- A part. -/
import Derived.Test.YthmgnfeljhdioaaGreatDxCall
set_option linter.unusedVariables false
set_option linter.unusedSimpArgs false
set_option linter.unusedSectionVars false
namespace Go.Dx
open Go
theorem C9 {call : zm} {o : zE} {rest : List zE} {t : PT Value} {s : DS} (d : Option Nat) (op : DOp) (h : o = ⟨d, op, none, [], false⟩) :
 ZO call (o :: rest) [] t s = (match dop call (ev t) s op with | some (v, s') => ZO call rest [] (Zx t d v) s' | none => none) := by
 subst h
 simp only [ZO, zy, if_true]
 rfl
theorem Vp {call : zm} {rest : List zE} {t : PT Value} {s : DS} (d : Option Nat) (op : DOp) :
 ZO call (⟨d, op, none, [], false⟩ :: rest) [] t s = (match dop call (ev t) s op with | some (v, s') => ZO call rest [] (Zx t d v) s' | none => none) := C9 d op rfl
theorem Jo {call : zm} {nt : List Zq} {t : PT Value} {s : DS} : ZO call [] nt t s = some (t, s) := rfl
theorem Wt {call : zm} {rest : List zE} {t : PT Value} {s : DS} (d : Option Nat) (op : DOp) (g : Nat) (b : Bool) :
 ZO call (⟨d, op, some (g, b), [], false⟩ :: rest) [] t s = if zy t (some (g, b)) then (match dop call (ev t) s op with | some (v, s') => ZO call rest [] (Zx t d v) s' | none => none) else ZO call rest [] (Zx t d zr) s := by
 simp only [ZO]
 rfl
theorem XJ (l : List Value) (i : Nat) : (Wb l).get i = l[i]? := J8 l i
def VE (E : Env) (d : Nat) (fn : ze) (args : List Value) (s : DS) : Option (Value × DS) :=
 match zu (dcall E d) E.lf false fn.body ⟨Wb args, s, []⟩ with
 | some (.exit _, _) => none
 | some (_, x) => match zU x.s x.defers with
  | some s' => match za x.t s' fn.results with
   | some vs => some (zf vs, s')
   | none => none
  | none => none
 | none => none
theorem VY {E : Env} {d g : Nat} {fn : ze} {args : List Value} {s : DS} (hi : E.intr g = none) (hf : E.fn g = some fn) (hl : Nat.ble args.length fn.ntmps = true) :
 dcall E (d + 1) (.func (.func g) #[] #[]) args s = VE E d fn args s := by
 simp only [dcall, List.append_nil, List.nil_append, hi, hf, hl, if_true]
 rfl
end Go.Dx
