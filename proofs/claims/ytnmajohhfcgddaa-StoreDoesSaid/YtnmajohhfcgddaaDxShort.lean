/- A part. -/
import Derived.Test.YtnmajohhfcgddaaDxTrans
namespace Go.Dx
open Go
abbrev tm (n : Nat) : Operand := .tmp n
def pp (d : Nat) (o : DOp) : Z1 := ⟨some d, o, none, [], false⟩
def pv (d x : Nat) : Z1 := ⟨some d, .mv (.tmp x), none, [], false⟩
def pg (d : Nat) (o : DOp) (g : Nat) (b : Bool) : Z1 := ⟨some d, o, some (g, b), [], false⟩
def pw (d x : Nat) (g : Nat) (b : Bool) : Z1 := ⟨some d, .mv (.tmp x), some (g, b), [], false⟩
end Go.Dx
