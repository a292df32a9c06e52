/- A part. -/
import Derived.Test.YtpfkbiaikfbpeaaGreatDxCall
set_option linter.unusedVariables false
set_option linter.unusedSimpArgs false
set_option linter.unusedSectionVars false
namespace Go.Dx
open Go
theorem TS {call : zN} {o : Zr} {rest : List Zr} {t : PT Value} {s : DS} (d : Option Nat) (op : DOp) (h : o = ⟨d, op, none, [], false⟩) :
 Y9 call (o :: rest) [] t s = (match dop call (ev t) s op with | some (v, s') => Y9 call rest [] (YG t d v) s' | none => none) := by
 subst h
 simp only [Y9, Zs, if_true]
 rfl
theorem Vj {call : zN} {rest : List Zr} {t : PT Value} {s : DS} (d : Option Nat) (op : DOp) :
 Y9 call (⟨d, op, none, [], false⟩ :: rest) [] t s = (match dop call (ev t) s op with | some (v, s') => Y9 call rest [] (YG t d v) s' | none => none) := TS d op rfl
theorem JL {call : zN} {nt : List Yv} {t : PT Value} {s : DS} : Y9 call [] nt t s = some (t, s) := rfl
theorem Q6 {call : zN} {rest : List Zr} {t : PT Value} {s : DS} (d : Option Nat) (op : DOp) (g : Nat) (b : Bool) :
 Y9 call (⟨d, op, some (g, b), [], false⟩ :: rest) [] t s = if Zs t (some (g, b)) then (match dop call (ev t) s op with | some (v, s') => Y9 call rest [] (YG t d v) s' | none => none) else Y9 call rest [] (YG t d Zb) s := by
 simp only [Y9]
 rfl
theorem zq (l : List Value) (i : Nat) : (W4 l).get i = l[i]? := VN l i
def W2 (E : Env) (d : Nat) (fn : zp) (args : List Value) (s : DS) : Option (Value × DS) :=
 match Zf (dcall E d) E.lf false fn.body ⟨W4 args, s, []⟩ with
 | some (.exit _, _) => none
 | some (_, x) => match ZD x.s x.defers with
  | some s' => match zo x.t s' fn.results with
   | some vs => some (zz vs, s')
   | none => none
  | none => none
 | none => none
theorem Wz {E : Env} {d g : Nat} {fn : zp} {args : List Value} {s : DS} (hi : E.intr g = none) (hf : E.fn g = some fn) (hl : Nat.ble args.length fn.ntmps = true) :
 dcall E (d + 1) (.func (.func g) #[] #[]) args s = W2 E d fn args s := by
 simp only [dcall, List.append_nil, List.nil_append, hi, hf, hl, if_true]
 rfl
end Go.Dx
