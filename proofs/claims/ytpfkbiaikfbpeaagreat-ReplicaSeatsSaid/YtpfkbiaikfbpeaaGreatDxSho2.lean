/- A part. -/
import Derived.Test.YtpfkbiaikfbpeaaGreatDxShort
namespace Go.Dx
open Go
def qI (n : Int) : Operand := .const (.int .i64 n)
def qT : Operand := .const (.bool true)
def qF : Operand := .const (.bool false)
def qE : Operand := .const (.slice none 0 0)
def qR (l : List Zr) (c : DCode) : DCode := .seq (.region l) c
def qN (n : Nat) (o : DOp) : Zr := ⟨some n, o, none, [], true⟩
def qH (n : Nat) (o : DOp) (h : List Nat) : Zr := ⟨some n, o, none, h, true⟩
def qP (a b : Nat) : Zr := ⟨none, .st 1 (.tmp a) (.tmp b), none, [], false⟩
def qL (n m : Nat) : Zr := ⟨some n, .ld none (.tmp m), none, [], false⟩
def qA (n k m : Nat) : Zr := ⟨some n, .fadr k (.tmp m), none, [], false⟩
def qK (n m : Nat) : Zr := ⟨some n, .nilck (.tmp m), none, [], false⟩
def qC (n f : Nat) (l : List Operand) : Zr := ⟨some n, .call (.func f) l, none, [], false⟩
end Go.Dx
