/- A part. -/
import Derived.Test.YtffgmngdgkpflaaGreatDxTrans
namespace Go.Dx
open Go
abbrev tm (n : Nat) : Operand := .tmp n
def pp (d : Nat) (o : DOp) : Ya := ⟨some d, o, none, [], false⟩
def pv (d x : Nat) : Ya := ⟨some d, .mv (.tmp x), none, [], false⟩
def pg (d : Nat) (o : DOp) (g : Nat) (b : Bool) : Ya := ⟨some d, o, some (g, b), [], false⟩
def pw (d x : Nat) (g : Nat) (b : Bool) : Ya := ⟨some d, .mv (.tmp x), some (g, b), [], false⟩
end Go.Dx
