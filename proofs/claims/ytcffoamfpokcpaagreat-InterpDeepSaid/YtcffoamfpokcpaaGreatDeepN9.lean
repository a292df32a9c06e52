/- InterpDeep at the numbers from 92 to 100: it returns true (a run of the evaluator, made by the kernel). -/
import Derived.Test.YtcffoamfpokcpaaGreatDeepEnv
namespace Go.Proofs.YtcffoamfpokcpaaGreat.interpDeep
open Go.ChangeShapes Go.WideShapes Go.ChangeAt Go.RowKit Go.Dx Go.Shelf
set_option linter.unusedVariables false
set_option linter.unusedSimpArgs false
set_option maxRecDepth 100000
set_option maxHeartbeats 4000000
theorem r92 : okOf (xcall env2 200 (.func (.func 3) #[] #[]) [.int .i64 (Int.ofNat 92)] s0) = true := by kernel_rfl
theorem r93 : okOf (xcall env2 200 (.func (.func 3) #[] #[]) [.int .i64 (Int.ofNat 93)] s0) = true := by kernel_rfl
theorem r94 : okOf (xcall env2 200 (.func (.func 3) #[] #[]) [.int .i64 (Int.ofNat 94)] s0) = true := by kernel_rfl
theorem r95 : okOf (xcall env2 200 (.func (.func 3) #[] #[]) [.int .i64 (Int.ofNat 95)] s0) = true := by kernel_rfl
theorem r96 : okOf (xcall env2 200 (.func (.func 3) #[] #[]) [.int .i64 (Int.ofNat 96)] s0) = true := by kernel_rfl
theorem r97 : okOf (xcall env2 200 (.func (.func 3) #[] #[]) [.int .i64 (Int.ofNat 97)] s0) = true := by kernel_rfl
theorem r98 : okOf (xcall env2 200 (.func (.func 3) #[] #[]) [.int .i64 (Int.ofNat 98)] s0) = true := by kernel_rfl
theorem r99 : okOf (xcall env2 200 (.func (.func 3) #[] #[]) [.int .i64 (Int.ofNat 99)] s0) = true := by kernel_rfl
theorem r100 : okOf (xcall env2 200 (.func (.func 3) #[] #[]) [.int .i64 (Int.ofNat 100)] s0) = true := by kernel_rfl
end Go.Proofs.YtcffoamfpokcpaaGreat.interpDeep
