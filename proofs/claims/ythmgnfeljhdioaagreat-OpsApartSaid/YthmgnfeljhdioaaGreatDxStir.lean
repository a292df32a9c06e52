/- A part. -/
import Derived.Test.YthmgnfeljhdioaaGreatDxSym
import Derived.Test.YthmgnfeljhdioaaGreatDxSorted
import Derived.Test.YthmgnfeljhdioaaGreatDxX4
import Derived.KernelRfl
set_option linter.unusedVariables false
set_option linter.unusedSimpArgs false
set_option linter.unusedSectionVars false
set_option maxRecDepth 100000
namespace Go.Dx
open Go
def KM (a b : Int) : Int := zv .u32 (a + b)
def Fw (a b : Int) : Int := zv .u32 (Int.ofNat (low .u32 a ^^^ low .u32 b))
def FC (n : Nat) (x : Int) : Int := zv .u32 (Int.ofNat (low .u32 (zv .u32 (x * Int.ofNat (2 ^ (32 - n)))) ||| low .u32 (x.fdiv (Int.ofNat (2 ^ n)))))
def ldV (a : Value) (s : DS) : Option Value :=
 match a with
 | .pointer (some ⟨k, off, none⟩) => match s.get k with
  | some (.cells c _) => c.get off
  | _ => none
 | _ => none
theorem Vh {call : zg} {ρ : Operand → Value} {s : DS} {a : Operand} : dop call ρ s (.ld none a) = (match ldV (ρ a) s with | some v => some (v, s) | none => none) := by
 rfl
theorem Pb {call : zg} {ρ : Operand → Value} {s : DS} {size : Nat} {a x : Operand} : dop call ρ s (.st size a x) = (match Qh size (ρ a) (ρ x) s with | some s' => some (zl, s') | none => none) := by
 have h := KY ρ s size a x
 show zf ρ s (.st size a x) = _
 rw [← h]
 cases Qh size (ρ a) (ρ x) s <;> rfl
theorem Vg {call : zg} {ρ : Operand → Value} {s : DS} {x : Operand} : dop call ρ s (.mv x) = some (ρ x, s) := rfl
theorem Q5 {call : zg} {ρ : Operand → Value} {s : DS} {op : BinOp} {x y : Operand} : dop call ρ s (.bin op x y) = (match zy op (ρ x) (ρ y) with | some v => some (v, s) | none => none) := rfl
theorem W3 {call : zg} {ρ : Operand → Value} {s : DS} {f : Operand} {args : List Operand} : dop call ρ s (.call f args) = call (ρ f) (args.map ρ) s := rfl
def SY (a b c d : Nat) (x y va vb vc vd : Int) (l : List Value) : List Value :=
 (fun (a1 : Int) => (fun (d1 : Int) => (fun (c1 : Int) => (fun (b1 : Int) => (fun (a2 : Int) => (fun (d2 : Int) => (fun (c2 : Int) =>
  Zq (Zq (Zq (Zq (Zq (Zq (Zq (Zq l a (.int .u32 a1)) d (.int .u32 d1)) c (.int .u32 c1)) b (.int .u32 b1)) a (.int .u32 a2)) d (.int .u32 d2)) c (.int .u32 c2)) b (.int .u32 (FC 7 (Fw b1 c2))))
  (KM c1 d2)) (FC 8 (Fw d1 a2))) (KM a1 (KM b1 y))) (FC 12 (Fw vb c1))) (KM vc d1)) (FC 16 (Fw vd a1))) (KM va (KM vb x))
noncomputable section
def xs (l : List Value) (i : Nat) (v : Value) : List Value := Ns.rec (motive := fun _ => List Value) (fun f => f v l) (GZ i)
end
theorem Xq.or {P : Program} {k : Nat} {F G : List Value → DS → Option (Value × DS)} (hF : Xq P k F) (hG : Xq P k G) : Xq P k fun a s => match F a s with | some r => some r | none => G a s := by
 refine ⟨fun a s v s' h => ?_, hF.body, fun a s v s' h => ?_⟩
 · cases hx : F a s with
   | none => simp only [hx] at h; exact hG.frame _ _ _ _ h
   | some r => simp only [hx, z2] at h; subst h; exact hF.frame _ _ _ _ hx
 · cases hx : F a s with
   | none => simp only [hx] at h; exact hG.sound _ _ _ _ h
   | some r => simp only [hx, z2] at h; subst h; exact hF.sound _ _ _ _ hx
end Go.Dx
