/- A part. -/
import Derived.Test.YtnmajohhfcgddaaDxIns
set_option linter.unusedVariables false
set_option linter.unusedSimpArgs false
set_option linter.unusedSectionVars false
namespace Go.Dx
open Go
noncomputable section
theorem Wk {a b : Nat} (h : a < b) : Nat.blt a b = true := (Yp a b).2 h
theorem Se {a b : Nat} (h : ¬ a < b) : Nat.blt a b = false := by
 cases hb : Nat.blt a b with
 | false => rfl
 | true => exact absurd ((Yp a b).1 hb) h
theorem Rr (m p : Nat) : Int.fdiv (.ofNat m) (.ofNat p) = .ofNat (m / p) := by
 cases m with
 | zero => simp [Int.fdiv]
 | succ m => rfl
inductive Ns where
 | mk (f : Value → List Value → List Value)
def MY (i : Nat) : Ns := Nat.rec (motive := fun _ => Ns) (Ns.mk fun v => List.rec [] fun _ l _ => v :: l) (fun _ ih => Ns.rec (fun f => Ns.mk fun v => List.rec [] fun x l _ => x :: f v l) ih) i
def FC (size : Nat) (a v : Value) (s : DS) : Option DS :=
 match a with
 | .pointer (some ⟨k, off, none⟩) =>
  let cs := v.cells.toList
  if Nat.beq cs.length size && allOne cs then s.write k off cs else none
 | _ => none
end
end Go.Dx
set_option linter.unusedVariables false
set_option linter.unusedSimpArgs false
set_option linter.unusedSectionVars false
namespace Go.Dx
open Go
noncomputable section
theorem VV : ∀ (l : List Value) (i : Nat), (getN l i).isSome = Nat.ble (i + 1) l.length
 | [], i => rfl
 | x :: l, 0 => rfl
 | x :: l, i + 1 => VV l i
theorem PP (c : Cells) (i : Nat) : (c.get i).isSome = Nat.ble (i + 1) c.size := by
 cases c with
 | list l => exact VV l i
 | str l => exact VV l i
 | tree n z t =>
  show (if i < n then some ((t.get i).getD z) else none).isSome = Nat.blt i n
  by_cases h : i < n
  · rw [if_pos h, Wk h]; rfl
  · rw [if_neg h, Se h]; rfl
def SA (v : Value) : Option Value := match v with
 | .pointer (some a) => some (.pointer (some a))
 | .func (.func f) a b => some (.func (.func f) a b)
 | .func (.yield l) a b => some (.func (.yield l) a b)
 | _ => none
end
end Go.Dx
set_option linter.unusedVariables false
set_option linter.unusedSimpArgs false
set_option linter.unusedSectionVars false
namespace Go.Dx
open Go
noncomputable section
variable (ρ : Operand → Value)
theorem Pm (s : DS) (size : Nat) (a x : Operand) : (Option.rec (motive := fun _ => Option (Value × DS)) none (fun s' => some (ZC, s')) (FC size (ρ a) (ρ x) s)) = z8 ρ s (.st size a x) := by
 simp only [FC, z8]
 generalize ρ a = A
 cases A with
 | pointer p =>
  cases p with
  | none => rfl
  | some ad =>
   obtain ⟨k, o, sp⟩ := ad
   cases sp with
   | some z => rfl
   | none =>
    dsimp only
    split
    · cases s.write k o (ρ x).cells.toList <;> rfl
    · rfl
 | _ => rfl
end
end Go.Dx
