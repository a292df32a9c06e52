/- InterpDeep at the numbers from 26 to 33: it returns true (a run of the evaluator, made by the kernel). -/
import Derived.Test.YtcffoamfpokcpaaGreatDeepEnv
namespace Go.Proofs.YtcffoamfpokcpaaGreat.interpDeep
open Go.ChangeShapes Go.WideShapes Go.ChangeAt Go.RowKit Go.Dx Go.Shelf
set_option linter.unusedVariables false
set_option linter.unusedSimpArgs false
set_option maxRecDepth 100000
set_option maxHeartbeats 4000000
theorem r26 : okOf (xcall env2 200 (.func (.func 3) #[] #[]) [.int .i64 (Int.ofNat 26)] s0) = true := by kernel_rfl
theorem r27 : okOf (xcall env2 200 (.func (.func 3) #[] #[]) [.int .i64 (Int.ofNat 27)] s0) = true := by kernel_rfl
theorem r28 : okOf (xcall env2 200 (.func (.func 3) #[] #[]) [.int .i64 (Int.ofNat 28)] s0) = true := by kernel_rfl
theorem r29 : okOf (xcall env2 200 (.func (.func 3) #[] #[]) [.int .i64 (Int.ofNat 29)] s0) = true := by kernel_rfl
theorem r30 : okOf (xcall env2 200 (.func (.func 3) #[] #[]) [.int .i64 (Int.ofNat 30)] s0) = true := by kernel_rfl
theorem r31 : okOf (xcall env2 200 (.func (.func 3) #[] #[]) [.int .i64 (Int.ofNat 31)] s0) = true := by kernel_rfl
theorem r32 : okOf (xcall env2 200 (.func (.func 3) #[] #[]) [.int .i64 (Int.ofNat 32)] s0) = true := by kernel_rfl
theorem r33 : okOf (xcall env2 200 (.func (.func 3) #[] #[]) [.int .i64 (Int.ofNat 33)] s0) = true := by kernel_rfl
end Go.Proofs.YtcffoamfpokcpaaGreat.interpDeep
