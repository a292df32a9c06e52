/- A part. -/
import Derived.Test.YtpfkbiaikfbpeaaGreatDxC
set_option linter.unusedVariables false
set_option linter.unusedSimpArgs false
set_option linter.unusedSectionVars false
namespace Go.Dx.St
open Go Go.Dx Go.Dx.Search
abbrev Ent := Int × Int
def pos (k : Int) : List Ent → Nat
 | [] => 0
 | x :: l => if x.1 < k then pos k l + 1 else 0
def Mz (k : Int) (L : List Ent) : Bool := match L[pos k L]? with
 | some x => decide (x.1 = k)
 | none => false
def Mr (k v : Int) (L : List Ent) : List Ent := if Mz k L then L.set (pos k L) (k, v) else QU L (pos k L) (k, v)
def Lj (L : List Ent) : Prop := L.Pairwise fun a b => a.1 < b.1
theorem SE (k : Int) : ∀ L : List Ent, pos k L ≤ L.length
 | [] => Nat.le_refl _
 | x :: l => by
  have := SE k l
  unfold pos
  split
  · simp; omega
  · simp
theorem G0 {L : List Ent} (k v : Int) : (Mr k v L).length = if Mz k L then L.length else L.length + 1 := by
 unfold Mr
 split
 · simp
 · exact Gz (SE k L)
end Go.Dx.St
