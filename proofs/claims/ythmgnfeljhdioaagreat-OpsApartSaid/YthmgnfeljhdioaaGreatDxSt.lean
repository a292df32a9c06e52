/- A part. -/
import Derived.Test.YthmgnfeljhdioaaGreatDxC
set_option linter.unusedVariables false
set_option linter.unusedSimpArgs false
set_option linter.unusedSectionVars false
namespace Go.Dx.St
open Go Go.Dx Go.Dx.Search
abbrev Ent := Int × Int
def pos (k : Int) : List Ent → Nat
 | [] => 0
 | x :: l => if x.1 < k then pos k l + 1 else 0
def Pz (k : Int) (L : List Ent) : Bool := match L[pos k L]? with
 | some x => decide (x.1 = k)
 | none => false
def Pu (k v : Int) (L : List Ent) : List Ent := if Pz k L then L.set (pos k L) (k, v) else C3 L (pos k L) (k, v)
theorem CO (k : Int) : ∀ L : List Ent, pos k L ≤ L.length
 | [] => Nat.le_refl _
 | x :: l => by
  have := CO k l
  unfold pos
  split
  · simp; omega
  · simp
theorem FG {L : List Ent} (k v : Int) : (Pu k v L).length = if Pz k L then L.length else L.length + 1 := by
 unfold Pu
 split
 · simp
 · exact DP (CO k L)
def I64 (n : Int) : Prop := -9223372036854775808 ≤ n ∧ n ≤ 9223372036854775807
end Go.Dx.St
