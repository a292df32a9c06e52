/- InterpDeep at the numbers from 0 to 15: it returns true (a run of the evaluator, made by the kernel). -/
import Derived.Test.YtcffoamfpokcpaaGreatDeepEnv
namespace Go.Proofs.YtcffoamfpokcpaaGreat.interpDeep
open Go.ChangeShapes Go.WideShapes Go.ChangeAt Go.RowKit Go.Dx Go.Shelf
set_option linter.unusedVariables false
set_option linter.unusedSimpArgs false
set_option maxRecDepth 100000
set_option maxHeartbeats 4000000
theorem r0 : okOf (xcall env2 200 (.func (.func 3) #[] #[]) [.int .i64 (Int.ofNat 0)] s0) = true := by kernel_rfl
theorem r1 : okOf (xcall env2 200 (.func (.func 3) #[] #[]) [.int .i64 (Int.ofNat 1)] s0) = true := by kernel_rfl
theorem r2 : okOf (xcall env2 200 (.func (.func 3) #[] #[]) [.int .i64 (Int.ofNat 2)] s0) = true := by kernel_rfl
theorem r3 : okOf (xcall env2 200 (.func (.func 3) #[] #[]) [.int .i64 (Int.ofNat 3)] s0) = true := by kernel_rfl
theorem r4 : okOf (xcall env2 200 (.func (.func 3) #[] #[]) [.int .i64 (Int.ofNat 4)] s0) = true := by kernel_rfl
theorem r5 : okOf (xcall env2 200 (.func (.func 3) #[] #[]) [.int .i64 (Int.ofNat 5)] s0) = true := by kernel_rfl
theorem r6 : okOf (xcall env2 200 (.func (.func 3) #[] #[]) [.int .i64 (Int.ofNat 6)] s0) = true := by kernel_rfl
theorem r7 : okOf (xcall env2 200 (.func (.func 3) #[] #[]) [.int .i64 (Int.ofNat 7)] s0) = true := by kernel_rfl
theorem r8 : okOf (xcall env2 200 (.func (.func 3) #[] #[]) [.int .i64 (Int.ofNat 8)] s0) = true := by kernel_rfl
theorem r9 : okOf (xcall env2 200 (.func (.func 3) #[] #[]) [.int .i64 (Int.ofNat 9)] s0) = true := by kernel_rfl
theorem r10 : okOf (xcall env2 200 (.func (.func 3) #[] #[]) [.int .i64 (Int.ofNat 10)] s0) = true := by kernel_rfl
theorem r11 : okOf (xcall env2 200 (.func (.func 3) #[] #[]) [.int .i64 (Int.ofNat 11)] s0) = true := by kernel_rfl
theorem r12 : okOf (xcall env2 200 (.func (.func 3) #[] #[]) [.int .i64 (Int.ofNat 12)] s0) = true := by kernel_rfl
theorem r13 : okOf (xcall env2 200 (.func (.func 3) #[] #[]) [.int .i64 (Int.ofNat 13)] s0) = true := by kernel_rfl
theorem r14 : okOf (xcall env2 200 (.func (.func 3) #[] #[]) [.int .i64 (Int.ofNat 14)] s0) = true := by kernel_rfl
theorem r15 : okOf (xcall env2 200 (.func (.func 3) #[] #[]) [.int .i64 (Int.ofNat 15)] s0) = true := by kernel_rfl
end Go.Proofs.YtcffoamfpokcpaaGreat.interpDeep
