/- A part. -/
import Derived.Test.YthmgnfeljhdioaaGreatDxTrans
namespace Go.Dx
open Go
abbrev tm (n : Nat) : Operand := .tmp n
def pp (d : Nat) (o : DOp) : zK := ⟨some d, o, none, [], false⟩
def pv (d x : Nat) : zK := ⟨some d, .mv (.tmp x), none, [], false⟩
def pg (d : Nat) (o : DOp) (g : Nat) (b : Bool) : zK := ⟨some d, o, some (g, b), [], false⟩
def pw (d x : Nat) (g : Nat) (b : Bool) : zK := ⟨some d, .mv (.tmp x), some (g, b), [], false⟩
end Go.Dx
