/- A part. -/
import Derived.Test.YtffgmngdgkpflaaGreatDxC
set_option linter.unusedVariables false
set_option linter.unusedSimpArgs false
set_option linter.unusedSectionVars false
namespace Go.Dx.Tab
open Go Go.Dx
structure Rp where
 c : Int
 n : Int
 rej : Bool
 trap : Int
 v : Int
 gas : Int
def Rp.cells (r : Rp) : List Value := [.int .i64 r.c, .int .i64 r.n, .bool r.rej, .int .i64 r.trap, .int .i64 r.v, .int .i64 r.gas]
def Rp.zero : Rp := ⟨0, 0, false, 0, 0, 0⟩
structure TR where
 key : Int
 num : Int
 done : Bool
 rep : Rp
def TR.val (x : TR) : Value := .agg ⟨[.int .i64 x.num, .bool x.done, .int .i64 x.rep.c, .int .i64 x.rep.n, .bool x.rep.rej, .int .i64 x.rep.trap, .int .i64 x.rep.v, .int .i64 x.rep.gas]⟩
abbrev TRs := List (TR × Nat)
def trE (x : TR × Nat) : Zj := { key := .int .i64 x.1.key, val := x.1.val, born := x.2 }
def rowOf : TRs → Int → Option TR
 | [], _ => none
 | x :: M, k => if k = x.1.key then some x.1 else rowOf M k
theorem Ed (a b : Int) : ZX .num (.int .i64 a) (.int .i64 b) = some (decide (a = b)) := by simp [ZX]
theorem Yy : ∀ {M : TRs} {k : Int} {x : TR}, rowOf M k = some x → x.key = k
 | y :: M, k, x, h => by
  unfold rowOf at h
  split at h
  · rename_i e; cases h; exact e.symm
  · exact Yy h
theorem Ws : ∀ (M : TRs) (k : Int) (n : Nat),
 (YG .num (.int .i64 k) (M.map trE) n = some none ∧ rowOf M k = none ∧ ∀ (y : TR) (b : Nat), y.key = k → ∀ k', rowOf (M ++ [(y, b)]) k' = if k' = k then some y else rowOf M k') ∨
 ∃ (j : Nat) (x : TR × Nat), YG .num (.int .i64 k) (M.map trE) n = some (some (n + j, trE x)) ∧ M[j]? = some x ∧ rowOf M k = some x.1 ∧ ∀ y : TR, y.key = k → setVal (M.map trE) j y.val = (M.set j (y, x.2)).map trE ∧ ∀ k', rowOf (M.set j (y, x.2)) k' = if k' = k then some y else rowOf M k'
 | [], k, _ => .inl ⟨rfl, rfl, fun y b hy k' => by simp [rowOf, hy]⟩
 | x :: M, k, n => by
  have e1 : ZX .num (.int .i64 k) (trE x).key = some (decide (k = x.1.key)) := Ed k x.1.key
  simp only [z4]
  unfold YG
  rw [e1]
  by_cases c : k = x.1.key
  · simp only [c, decide_true]
    refine .inr ⟨0, x, rfl, rfl, by simp [rowOf], fun y hy => ⟨?_, fun k' => ?_⟩⟩
    · simp only [setVal, List.set_cons_zero, z4, trE, hy]
    · simp only [List.set_cons_zero, rowOf, hy]
      by_cases e : k' = x.1.key
      · simp [e]
      · simp [e]
  · simp only [c, decide_false]
    rcases Ws M k (n + 1) with ⟨h1, h2, h3⟩ | ⟨j, y, h1, h2, h3, h4⟩
    · refine .inl ⟨h1, by simp [rowOf, c, h2], fun y b hy k' => ?_⟩
      simp only [List.cons_append, rowOf, h3 y b hy k']
      by_cases e : k' = x.1.key
      · have : ¬ k' = k := fun e2 => c (e2.symm.trans e)
        simp [e]
        exact fun e2 => absurd (e2.symm) c
      · simp [e]
    · refine .inr ⟨j + 1, y, ?_, by simpa using h2, by simp [rowOf, c, h3], fun z hz => ?_⟩
      · rw [h1]
        congr 3
        omega
      · obtain ⟨h5, h6⟩ := h4 z hz
        refine ⟨by simp only [setVal, List.set_cons_succ, z4, h5], fun k' => ?_⟩
        simp only [List.set_cons_succ, rowOf, h6 k']
        by_cases e : k' = x.1.key
        · simp [e]
          exact fun e2 => absurd (e2.symm) c
        · simp [e]
theorem TY (M : TRs) (y : TR) (clock : Nat) : M.map trE ++ [{ key := .int .i64 y.key, val := y.val, born := clock }] = (M ++ [(y, clock)]).map trE := by simp [trE]
def Who (c n : Int) : Prop := 0 ≤ c ∧ c ≤ 63 ∧ 1 ≤ n ∧ n ≤ 1099511627776
instance (c n : Int) : Decidable (Who c n) := inferInstanceAs (Decidable (_ ∧ _))
def ZR (r : Rp) : Prop := ¬ (r.rej = true ∧ (r.trap ≠ 0 ∨ r.v ≠ 0 ∨ r.gas ≠ 0)) ∧ Who r.c r.n ∧ 0 ≤ r.trap ∧ r.trap ≤ 6 ∧ 0 ≤ r.gas ∧ r.gas ≤ 1048576
instance (r : Rp) : Decidable (ZR r) := inferInstanceAs (Decidable (_ ∧ _))
def Zf (x : Option TR) (c n : Int) : Int := if Who c n then (match x with | some x => if n < x.num then 210 else if n = x.num then 5 else 0 | none => 0) else 1
def z6 (x : Option TR) (r : Rp) : Int := if ZR r then (match x with | some x => if x.num = r.n then (if x.done then 5 else 0) else 4 | none => 4) else 1
end Go.Dx.Tab
