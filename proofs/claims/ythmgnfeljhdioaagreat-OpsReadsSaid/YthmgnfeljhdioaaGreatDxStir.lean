/- A part. -/
import Derived.Test.YthmgnfeljhdioaaGreatDxSym
import Derived.Test.YthmgnfeljhdioaaGreatDxSorted
import Derived.Test.YthmgnfeljhdioaaGreatDxX4
import Derived.KernelRfl
set_option linter.unusedVariables false
set_option linter.unusedSimpArgs false
set_option linter.unusedSectionVars false
set_option maxRecDepth 100000
namespace Go.Dx
open Go
def Vj (a b : Int) : Int := zw .u32 (a + b)
def F5 (a b : Int) : Int := zw .u32 (Int.ofNat (low .u32 a ^^^ low .u32 b))
def De (n : Nat) (x : Int) : Int := zw .u32 (Int.ofNat (low .u32 (zw .u32 (x * Int.ofNat (2 ^ (32 - n)))) ||| low .u32 (x.fdiv (Int.ofNat (2 ^ n)))))
def ldV (a : Value) (s : DS) : Option Value :=
 match a with
 | .pointer (some ⟨k, off, none⟩) => match s.get k with
  | some (.cells c _) => c.get off
  | _ => none
 | _ => none
theorem VI {call : zm} {ρ : Operand → Value} {s : DS} {a : Operand} : dop call ρ s (.ld none a) = (match ldV (ρ a) s with | some v => some (v, s) | none => none) := by
 rfl
theorem Nb {call : zm} {ρ : Operand → Value} {s : DS} {size : Nat} {a x : Operand} : dop call ρ s (.st size a x) = (match QF size (ρ a) (ρ x) s with | some s' => some (zr, s') | none => none) := by
 have h := Vt ρ s size a x
 show zj ρ s (.st size a x) = _
 rw [← h]
 cases QF size (ρ a) (ρ x) s <;> rfl
theorem VG {call : zm} {ρ : Operand → Value} {s : DS} {x : Operand} : dop call ρ s (.mv x) = some (ρ x, s) := rfl
theorem Jv {call : zm} {ρ : Operand → Value} {s : DS} {op : BinOp} {x y : Operand} : dop call ρ s (.bin op x y) = (match zp op (ρ x) (ρ y) with | some v => some (v, s) | none => none) := rfl
theorem Qq {call : zm} {ρ : Operand → Value} {s : DS} {f : Operand} {args : List Operand} : dop call ρ s (.call f args) = call (ρ f) (args.map ρ) s := rfl
def Pe (a b c d : Nat) (x y va vb vc vd : Int) (l : List Value) : List Value :=
 (fun (a1 : Int) => (fun (d1 : Int) => (fun (c1 : Int) => (fun (b1 : Int) => (fun (a2 : Int) => (fun (d2 : Int) => (fun (c2 : Int) =>
  zt (zt (zt (zt (zt (zt (zt (zt l a (.int .u32 a1)) d (.int .u32 d1)) c (.int .u32 c1)) b (.int .u32 b1)) a (.int .u32 a2)) d (.int .u32 d2)) c (.int .u32 c2)) b (.int .u32 (De 7 (F5 b1 c2))))
  (Vj c1 d2)) (De 8 (F5 d1 a2))) (Vj a1 (Vj b1 y))) (De 12 (F5 vb c1))) (Vj vc d1)) (De 16 (F5 vd a1))) (Vj va (Vj vb x))
noncomputable section
def xs (l : List Value) (i : Nat) (v : Value) : List Value := Ns.rec (motive := fun _ => List Value) (fun f => f v l) (Fz i)
end
theorem XX.or {P : Program} {k : Nat} {F G : List Value → DS → Option (Value × DS)} (hF : XX P k F) (hG : XX P k G) : XX P k fun a s => match F a s with | some r => some r | none => G a s := by
 refine ⟨fun a s v s' h => ?_, hF.body, fun a s v s' h => ?_⟩
 · cases hx : F a s with
   | none => simp only [hx] at h; exact hG.frame _ _ _ _ h
   | some r => simp only [hx, z2] at h; subst h; exact hF.frame _ _ _ _ hx
 · cases hx : F a s with
   | none => simp only [hx] at h; exact hG.sound _ _ _ _ h
   | some r => simp only [hx, z2] at h; subst h; exact hF.sound _ _ _ _ hx
end Go.Dx
