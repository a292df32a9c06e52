/- A part. -/
import Derived.Test.YthmgnfeljhdioaaGreatDxSym
import Derived.Test.YthmgnfeljhdioaaGreatDxSorted
import Derived.Test.YthmgnfeljhdioaaGreatDxX4
import Derived.KernelRfl
set_option linter.unusedVariables false
set_option linter.unusedSimpArgs false
set_option linter.unusedSectionVars false
set_option maxRecDepth 100000
namespace Go.Dx
open Go
def VU (a b : Int) : Int := zt .u32 (a + b)
def Cx (a b : Int) : Int := zt .u32 (Int.ofNat (low .u32 a ^^^ low .u32 b))
def CF (n : Nat) (x : Int) : Int := zt .u32 (Int.ofNat (low .u32 (zt .u32 (x * Int.ofNat (2 ^ (32 - n)))) ||| low .u32 (x.fdiv (Int.ofNat (2 ^ n)))))
def ldV (a : Value) (s : DS) : Option Value :=
 match a with
 | .pointer (some ⟨k, off, none⟩) => match s.get k with
  | some (.cells c _) => c.get off
  | _ => none
 | _ => none
theorem Gr {call : zn} {ρ : Operand → Value} {s : DS} {a : Operand} : dop call ρ s (.ld none a) = (match ldV (ρ a) s with | some v => some (v, s) | none => none) := by
 rfl
theorem MZ {call : zn} {ρ : Operand → Value} {s : DS} {size : Nat} {a x : Operand} : dop call ρ s (.st size a x) = (match Je size (ρ a) (ρ x) s with | some s' => some (zv, s') | none => none) := by
 have h := V6 ρ s size a x
 show zl ρ s (.st size a x) = _
 rw [← h]
 cases Je size (ρ a) (ρ x) s <;> rfl
theorem Gq {call : zn} {ρ : Operand → Value} {s : DS} {x : Operand} : dop call ρ s (.mv x) = some (ρ x, s) := rfl
theorem J6 {call : zn} {ρ : Operand → Value} {s : DS} {op : BinOp} {x y : Operand} : dop call ρ s (.bin op x y) = (match zo op (ρ x) (ρ y) with | some v => some (v, s) | none => none) := rfl
theorem Q1 {call : zn} {ρ : Operand → Value} {s : DS} {f : Operand} {args : List Operand} : dop call ρ s (.call f args) = call (ρ f) (args.map ρ) s := rfl
def N1 (a b c d : Nat) (x y va vb vc vd : Int) (l : List Value) : List Value :=
 (fun (a1 : Int) => (fun (d1 : Int) => (fun (c1 : Int) => (fun (b1 : Int) => (fun (a2 : Int) => (fun (d2 : Int) => (fun (c2 : Int) =>
  zA (zA (zA (zA (zA (zA (zA (zA l a (.int .u32 a1)) d (.int .u32 d1)) c (.int .u32 c1)) b (.int .u32 b1)) a (.int .u32 a2)) d (.int .u32 d2)) c (.int .u32 c2)) b (.int .u32 (CF 7 (Cx b1 c2))))
  (VU c1 d2)) (CF 8 (Cx d1 a2))) (VU a1 (VU b1 y))) (CF 12 (Cx vb c1))) (VU vc d1)) (CF 16 (Cx vd a1))) (VU va (VU vb x))
noncomputable section
def xs (l : List Value) (i : Nat) (v : Value) : List Value := Ns.rec (motive := fun _ => List Value) (fun f => f v l) (DP i)
end
theorem WA.or {P : Program} {k : Nat} {F G : List Value → DS → Option (Value × DS)} (hF : WA P k F) (hG : WA P k G) : WA P k fun a s => match F a s with | some r => some r | none => G a s := by
 refine ⟨fun a s v s' h => ?_, hF.body, fun a s v s' h => ?_⟩
 · cases hx : F a s with
   | none => simp only [hx] at h; exact hG.frame _ _ _ _ h
   | some r => simp only [hx, z2] at h; subst h; exact hF.frame _ _ _ _ hx
 · cases hx : F a s with
   | none => simp only [hx] at h; exact hG.sound _ _ _ _ h
   | some r => simp only [hx, z2] at h; subst h; exact hF.sound _ _ _ _ hx
end Go.Dx
