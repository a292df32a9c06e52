/- InterpDeep at the numbers from 54 to 62: it returns true (a run of the evaluator, made by the kernel). -/
import Derived.Test.YtcffoamfpokcpaaGreatDeepEnv
namespace Go.Proofs.YtcffoamfpokcpaaGreat.interpDeep
open Go.ChangeShapes Go.WideShapes Go.ChangeAt Go.RowKit Go.Dx Go.Shelf
set_option linter.unusedVariables false
set_option linter.unusedSimpArgs false
set_option maxRecDepth 100000
set_option maxHeartbeats 4000000
theorem r54 : okOf (xcall env2 200 (.func (.func 3) #[] #[]) [.int .i64 (Int.ofNat 54)] s0) = true := by kernel_rfl
theorem r55 : okOf (xcall env2 200 (.func (.func 3) #[] #[]) [.int .i64 (Int.ofNat 55)] s0) = true := by kernel_rfl
theorem r56 : okOf (xcall env2 200 (.func (.func 3) #[] #[]) [.int .i64 (Int.ofNat 56)] s0) = true := by kernel_rfl
theorem r57 : okOf (xcall env2 200 (.func (.func 3) #[] #[]) [.int .i64 (Int.ofNat 57)] s0) = true := by kernel_rfl
theorem r58 : okOf (xcall env2 200 (.func (.func 3) #[] #[]) [.int .i64 (Int.ofNat 58)] s0) = true := by kernel_rfl
theorem r59 : okOf (xcall env2 200 (.func (.func 3) #[] #[]) [.int .i64 (Int.ofNat 59)] s0) = true := by kernel_rfl
theorem r60 : okOf (xcall env2 200 (.func (.func 3) #[] #[]) [.int .i64 (Int.ofNat 60)] s0) = true := by kernel_rfl
theorem r61 : okOf (xcall env2 200 (.func (.func 3) #[] #[]) [.int .i64 (Int.ofNat 61)] s0) = true := by kernel_rfl
theorem r62 : okOf (xcall env2 200 (.func (.func 3) #[] #[]) [.int .i64 (Int.ofNat 62)] s0) = true := by kernel_rfl
end Go.Proofs.YtcffoamfpokcpaaGreat.interpDeep
