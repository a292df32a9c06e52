/- A part. -/
import Derived.Test.YthmgnfeljhdioaaGreatDxC
set_option linter.unusedVariables false
set_option linter.unusedSimpArgs false
set_option linter.unusedSectionVars false
namespace Go.Dx.St
open Go Go.Dx Go.Dx.Search
abbrev Ent := Int × Int
def pos (k : Int) : List Ent → Nat
 | [] => 0
 | x :: l => if x.1 < k then pos k l + 1 else 0
def Lt (k : Int) (L : List Ent) : Bool := match L[pos k L]? with
 | some x => decide (x.1 = k)
 | none => false
def Lp (k v : Int) (L : List Ent) : List Ent := if Lt k L then L.set (pos k L) (k, v) else RJ L (pos k L) (k, v)
theorem Rt (k : Int) : ∀ L : List Ent, pos k L ≤ L.length
 | [] => Nat.le_refl _
 | x :: l => by
  have := Rt k l
  unfold pos
  split
  · simp; omega
  · simp
theorem CN {L : List Ent} (k v : Int) : (Lp k v L).length = if Lt k L then L.length else L.length + 1 := by
 unfold Lp
 split
 · simp
 · exact T4 (Rt k L)
def I64 (n : Int) : Prop := -9223372036854775808 ≤ n ∧ n ≤ 9223372036854775807
end Go.Dx.St
