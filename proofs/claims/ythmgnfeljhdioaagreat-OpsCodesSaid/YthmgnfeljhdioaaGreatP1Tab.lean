/- A part. -/
import Derived.Test.YthmgnfeljhdioaaGreatP1Cd
import Derived.Test.YthmgnfeljhdioaaGreatDxTab
set_option linter.unusedVariables false
set_option linter.unusedSimpArgs false
set_option linter.unusedSectionVars false
set_option maxRecDepth 100000
set_option maxHeartbeats 4000000
namespace Go.Dx.TbA
open Go Go.Dx Go.Dx.Tab Go.Proofs.YthmgnfeljhdioaaGreat
structure GD (E : Env) : Prop where
 foMay : E.fn 9 = some d9
 ioMay : E.intr 9 = none
 fmayR : E.fn 27 = some d27
 imayR : E.intr 27 = none
 fwho : E.fn 30 = some d30
 iwho : E.intr 30 = none
 fwithin : E.fn 31 = some d31
 iwithin : E.intr 31 = none
section
variable {E : Env} (hT : GD E) {s s' : DS} {d : Nat}
include hT
theorem XV (n a b : Int) : dcall E (d + 1) (.func (.func 31) #[] #[]) [.int .i64 n, .int .i64 a, .int .i64 b] s = some (.bool (decide (a ≤ n ∧ n ≤ b)), s) := by
 rw [← Dm, zj hT.iwithin hT.fwithin rfl]
 by_cases h1 : a ≤ n
 · by_cases h2 : n ≤ b
   · simp only [sA, zb, zo, zm, Nat.reduceEqDiff, za, ze, reduceCtorEq, pp, pv, pw, pg, d31, h1, h2] <;> simp
   · simp only [sA, zb, zo, zm, Nat.reduceEqDiff, za, ze, reduceCtorEq, pp, pv, pw, pg, d31, h1, h2] <;> simp
 · simp only [sA, zb, zo, zm, Nat.reduceEqDiff, za, ze, reduceCtorEq, pp, pv, pw, pg, d31, h1] <;> simp
theorem Sv (c n : Int) : dcall E (d + 2) (.func (.func 30) #[] #[]) [.int .i64 c, .int .i64 n] s = some (.bool (decide (Who c n)), s) := by
 rw [← Dm, zj hT.iwho hT.fwho rfl]
 have h1 := XV hT (d := d) (s := s) c 0 63
 have h2 := XV hT (d := d) (s := s) n 1 1099511627776
 by_cases c1 : 0 ≤ c ∧ c ≤ 63
 · rw [decide_eq_true c1] at h1
   simp only [sA, zb, Nat.reduceEqDiff, za, ze, reduceCtorEq, pp, pv, pw, pg, d30, h1, h2]
   simp only [Who]
   congr 3
   simp [c1.1, c1.2]
 · rw [decide_eq_false c1] at h1
   simp only [sA, zb, Nat.reduceEqDiff, za, ze, reduceCtorEq, pp, pv, pw, pg, d30, h1]
   have : ¬ Who c n := fun h => c1 ⟨h.1, h.2.1⟩
   simp [this]
end
end Go.Dx.TbA
