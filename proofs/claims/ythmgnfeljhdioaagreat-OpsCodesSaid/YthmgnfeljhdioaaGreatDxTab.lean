/- A part. -/
import Derived.Test.YthmgnfeljhdioaaGreatDxC
set_option linter.unusedVariables false
set_option linter.unusedSimpArgs false
set_option linter.unusedSectionVars false
namespace Go.Dx.Tab
open Go Go.Dx
structure Rp where
 c : Int
 n : Int
 rej : Bool
 trap : Int
 v : Int
 gas : Int
def Rp.cells (r : Rp) : List Value := [.int .i64 r.c, .int .i64 r.n, .bool r.rej, .int .i64 r.trap, .int .i64 r.v, .int .i64 r.gas]
def Rp.zero : Rp := ⟨0, 0, false, 0, 0, 0⟩
structure TR where
 key : Int
 num : Int
 done : Bool
 rep : Rp
def TR.val (x : TR) : Value := .agg ⟨[.int .i64 x.num, .bool x.done, .int .i64 x.rep.c, .int .i64 x.rep.n, .bool x.rep.rej, .int .i64 x.rep.trap, .int .i64 x.rep.v, .int .i64 x.rep.gas]⟩
abbrev TRs := List (TR × Nat)
def Who (c n : Int) : Prop := 0 ≤ c ∧ c ≤ 63 ∧ 1 ≤ n ∧ n ≤ 1099511627776
instance (c n : Int) : Decidable (Who c n) := inferInstanceAs (Decidable (_ ∧ _))
def ZE (r : Rp) : Prop := ¬ (r.rej = true ∧ (r.trap ≠ 0 ∨ r.v ≠ 0 ∨ r.gas ≠ 0)) ∧ Who r.c r.n ∧ 0 ≤ r.trap ∧ r.trap ≤ 6 ∧ 0 ≤ r.gas ∧ r.gas ≤ 1048576
instance (r : Rp) : Decidable (ZE r) := inferInstanceAs (Decidable (_ ∧ _))
end Go.Dx.Tab
