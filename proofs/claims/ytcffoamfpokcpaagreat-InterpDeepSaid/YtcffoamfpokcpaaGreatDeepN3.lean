/- InterpDeep at the numbers from 34 to 43: it returns true (a run of the evaluator, made by the kernel). -/
import Derived.Test.YtcffoamfpokcpaaGreatDeepEnv
namespace Go.Proofs.YtcffoamfpokcpaaGreat.interpDeep
open Go.ChangeShapes Go.WideShapes Go.ChangeAt Go.RowKit Go.Dx Go.Shelf
set_option linter.unusedVariables false
set_option linter.unusedSimpArgs false
set_option maxRecDepth 100000
set_option maxHeartbeats 4000000
theorem r34 : okOf (xcall env2 200 (.func (.func 3) #[] #[]) [.int .i64 (Int.ofNat 34)] s0) = true := by kernel_rfl
theorem r35 : okOf (xcall env2 200 (.func (.func 3) #[] #[]) [.int .i64 (Int.ofNat 35)] s0) = true := by kernel_rfl
theorem r36 : okOf (xcall env2 200 (.func (.func 3) #[] #[]) [.int .i64 (Int.ofNat 36)] s0) = true := by kernel_rfl
theorem r37 : okOf (xcall env2 200 (.func (.func 3) #[] #[]) [.int .i64 (Int.ofNat 37)] s0) = true := by kernel_rfl
theorem r38 : okOf (xcall env2 200 (.func (.func 3) #[] #[]) [.int .i64 (Int.ofNat 38)] s0) = true := by kernel_rfl
theorem r39 : okOf (xcall env2 200 (.func (.func 3) #[] #[]) [.int .i64 (Int.ofNat 39)] s0) = true := by kernel_rfl
theorem r40 : okOf (xcall env2 200 (.func (.func 3) #[] #[]) [.int .i64 (Int.ofNat 40)] s0) = true := by kernel_rfl
theorem r41 : okOf (xcall env2 200 (.func (.func 3) #[] #[]) [.int .i64 (Int.ofNat 41)] s0) = true := by kernel_rfl
theorem r42 : okOf (xcall env2 200 (.func (.func 3) #[] #[]) [.int .i64 (Int.ofNat 42)] s0) = true := by kernel_rfl
theorem r43 : okOf (xcall env2 200 (.func (.func 3) #[] #[]) [.int .i64 (Int.ofNat 43)] s0) = true := by kernel_rfl
end Go.Proofs.YtcffoamfpokcpaaGreat.interpDeep
