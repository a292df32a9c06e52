/- InterpDeep at any number: it returns true. -/
import Derived.Test.YtcffoamfpokcpaaGreatDeepN0
import Derived.Test.YtcffoamfpokcpaaGreatDeepN1
import Derived.Test.YtcffoamfpokcpaaGreatDeepN2
import Derived.Test.YtcffoamfpokcpaaGreatDeepN3
import Derived.Test.YtcffoamfpokcpaaGreatDeepN4
import Derived.Test.YtcffoamfpokcpaaGreatDeepN5
import Derived.Test.YtcffoamfpokcpaaGreatDeepN6
import Derived.Test.YtcffoamfpokcpaaGreatDeepN7
import Derived.Test.YtcffoamfpokcpaaGreatDeepN8
import Derived.Test.YtcffoamfpokcpaaGreatDeepN9
namespace Go.Proofs.YtcffoamfpokcpaaGreat.interpDeep
open Go.ChangeShapes Go.WideShapes Go.ChangeAt Go.RowKit Go.Dx Go.Shelf
set_option linter.unusedVariables false
set_option linter.unusedSimpArgs false
set_option maxRecDepth 100000
set_option maxHeartbeats 4000000
theorem all : ∀ k : Nat, k ≤ 100 → okOf (xcall env2 200 (.func (.func 3) #[] #[]) [.int .i64 (Int.ofNat k)] s0) = true
  | 0, _ => r0
  | 1, _ => r1
  | 2, _ => r2
  | 3, _ => r3
  | 4, _ => r4
  | 5, _ => r5
  | 6, _ => r6
  | 7, _ => r7
  | 8, _ => r8
  | 9, _ => r9
  | 10, _ => r10
  | 11, _ => r11
  | 12, _ => r12
  | 13, _ => r13
  | 14, _ => r14
  | 15, _ => r15
  | 16, _ => r16
  | 17, _ => r17
  | 18, _ => r18
  | 19, _ => r19
  | 20, _ => r20
  | 21, _ => r21
  | 22, _ => r22
  | 23, _ => r23
  | 24, _ => r24
  | 25, _ => r25
  | 26, _ => r26
  | 27, _ => r27
  | 28, _ => r28
  | 29, _ => r29
  | 30, _ => r30
  | 31, _ => r31
  | 32, _ => r32
  | 33, _ => r33
  | 34, _ => r34
  | 35, _ => r35
  | 36, _ => r36
  | 37, _ => r37
  | 38, _ => r38
  | 39, _ => r39
  | 40, _ => r40
  | 41, _ => r41
  | 42, _ => r42
  | 43, _ => r43
  | 44, _ => r44
  | 45, _ => r45
  | 46, _ => r46
  | 47, _ => r47
  | 48, _ => r48
  | 49, _ => r49
  | 50, _ => r50
  | 51, _ => r51
  | 52, _ => r52
  | 53, _ => r53
  | 54, _ => r54
  | 55, _ => r55
  | 56, _ => r56
  | 57, _ => r57
  | 58, _ => r58
  | 59, _ => r59
  | 60, _ => r60
  | 61, _ => r61
  | 62, _ => r62
  | 63, _ => r63
  | 64, _ => r64
  | 65, _ => r65
  | 66, _ => r66
  | 67, _ => r67
  | 68, _ => r68
  | 69, _ => r69
  | 70, _ => r70
  | 71, _ => r71
  | 72, _ => r72
  | 73, _ => r73
  | 74, _ => r74
  | 75, _ => r75
  | 76, _ => r76
  | 77, _ => r77
  | 78, _ => r78
  | 79, _ => r79
  | 80, _ => r80
  | 81, _ => r81
  | 82, _ => r82
  | 83, _ => r83
  | 84, _ => r84
  | 85, _ => r85
  | 86, _ => r86
  | 87, _ => r87
  | 88, _ => r88
  | 89, _ => r89
  | 90, _ => r90
  | 91, _ => r91
  | 92, _ => r92
  | 93, _ => r93
  | 94, _ => r94
  | 95, _ => r95
  | 96, _ => r96
  | 97, _ => r97
  | 98, _ => r98
  | 99, _ => r99
  | 100, _ => r100
  | k + 101, h => absurd h (by omega)
theorem walk (a0 : Int) (w : World) : Calls Tryz.prog 3 #[.int .i64 a0] w fun e w' => e = .returned (.bool true) ∧ Kept w w' := by
  by_cases h : a0 < 0 ∨ (¬ a0 < 0 ∧ a0 > 100)
  · obtain ⟨⟨v, s'⟩, hr, hq⟩ := guardRun a0 h
    simp only at hq
    subst hq
    exact top_d env2_ok hr (fun _ => .cons (.int _ _) .nil) w
  · obtain ⟨k, hk, rfl⟩ : ∃ k : Nat, k ≤ 100 ∧ a0 = Int.ofNat k := ⟨a0.toNat, by omega, by show a0 = ((a0.toNat : Nat) : Int); omega⟩
    exact top env2_ok (all k hk) (fun _ => .cons (.int _ _) .nil) w
end Go.Proofs.YtcffoamfpokcpaaGreat.interpDeep
