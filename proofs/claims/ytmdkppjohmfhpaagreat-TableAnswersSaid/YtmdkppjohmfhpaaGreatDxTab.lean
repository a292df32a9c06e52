/- A table's rows by clients, and pairs that were seen. No program in sight. -/
import Derived.Test.YtmdkppjohmfhpaaGreatDxC
set_option linter.unusedVariables false
set_option linter.unusedSimpArgs false
set_option linter.unusedSectionVars false
namespace Go.Dx.Tab
open Go Go.Dx
/-- a reply: client, number, rejected, trap, value, gas -/
structure Rp where
  c : Int
  n : Int
  rej : Bool
  trap : Int
  v : Int
  gas : Int
def Rp.cells (r : Rp) : List Value := [.int .i64 r.c, .int .i64 r.n, .bool r.rej, .int .i64 r.trap, .int .i64 r.v, .int .i64 r.gas]
def Rp.zero : Rp := ⟨0, 0, false, 0, 0, 0⟩
structure TR where
  key : Int
  num : Int
  done : Bool
  rep : Rp
def TR.val (x : TR) : Value := .agg ⟨[.int .i64 x.num, .bool x.done, .int .i64 x.rep.c, .int .i64 x.rep.n, .bool x.rep.rej, .int .i64 x.rep.trap, .int .i64 x.rep.v, .int .i64 x.rep.gas]⟩
abbrev TRs := List (TR × Nat)
def trE (x : TR × Nat) : DEntry := { key := .int .i64 x.1.key, val := x.1.val, born := x.2 }
def rowOf : TRs → Int → Option TR
  | [], _ => none
  | x :: M, k => if k = x.1.key then some x.1 else rowOf M k
theorem keyI (a b : Int) : keyEq .num (.int .i64 a) (.int .i64 b) = some (decide (a = b)) := by simp [keyEq]
theorem rowOf_key : ∀ {M : TRs} {k : Int} {x : TR}, rowOf M k = some x → x.key = k
  | y :: M, k, x, h => by
    unfold rowOf at h
    split at h
    · rename_i e; cases h; exact e.symm
    · exact rowOf_key h
/-- what a look finds, and what it is behind a change there -/
theorem tr_find : ∀ (M : TRs) (k : Int) (n : Nat),
    (findE .num (.int .i64 k) (M.map trE) n = some none ∧ rowOf M k = none ∧ ∀ (y : TR) (b : Nat), y.key = k → ∀ k', rowOf (M ++ [(y, b)]) k' = if k' = k then some y else rowOf M k') ∨
    ∃ (j : Nat) (x : TR × Nat), findE .num (.int .i64 k) (M.map trE) n = some (some (n + j, trE x)) ∧ M[j]? = some x ∧ rowOf M k = some x.1 ∧ ∀ y : TR, y.key = k → setVal (M.map trE) j y.val = (M.set j (y, x.2)).map trE ∧ ∀ k', rowOf (M.set j (y, x.2)) k' = if k' = k then some y else rowOf M k'
  | [], k, _ => .inl ⟨rfl, rfl, fun y b hy k' => by simp [rowOf, hy]⟩
  | x :: M, k, n => by
    have e1 : keyEq .num (.int .i64 k) (trE x).key = some (decide (k = x.1.key)) := keyI k x.1.key
    simp only [List.map_cons]
    unfold findE
    rw [e1]
    by_cases c : k = x.1.key
    · simp only [c, decide_true]
      refine .inr ⟨0, x, rfl, rfl, by simp [rowOf], fun y hy => ⟨?_, fun k' => ?_⟩⟩
      · simp only [setVal, List.set_cons_zero, List.map_cons, trE, hy]
      · simp only [List.set_cons_zero, rowOf, hy]
        by_cases e : k' = x.1.key
        · simp [e]
        · simp [e]
    · simp only [c, decide_false]
      rcases tr_find M k (n + 1) with ⟨h1, h2, h3⟩ | ⟨j, y, h1, h2, h3, h4⟩
      · refine .inl ⟨h1, by simp [rowOf, c, h2], fun y b hy k' => ?_⟩
        simp only [List.cons_append, rowOf, h3 y b hy k']
        by_cases e : k' = x.1.key
        · have : ¬ k' = k := fun e2 => c (e2.symm.trans e)
          simp [e]
          exact fun e2 => absurd (e2.symm) c
        · simp [e]
      · refine .inr ⟨j + 1, y, ?_, by simpa using h2, by simp [rowOf, c, h3], fun z hz => ?_⟩
        · rw [h1]
          congr 3
          omega
        · obtain ⟨h5, h6⟩ := h4 z hz
          refine ⟨by simp only [setVal, List.set_cons_succ, List.map_cons, h5], fun k' => ?_⟩
          simp only [List.set_cons_succ, rowOf, h6 k']
          by_cases e : k' = x.1.key
          · simp [e]
            exact fun e2 => absurd (e2.symm) c
          · simp [e]
theorem trs_app (M : TRs) (y : TR) (clock : Nat) : M.map trE ++ [{ key := .int .i64 y.key, val := y.val, born := clock }] = (M ++ [(y, clock)]).map trE := by simp [trE]
/-! ### Which requests may be -/
def Who (c n : Int) : Prop := 0 ≤ c ∧ c ≤ 63 ∧ 1 ≤ n ∧ n ≤ 1099511627776
instance (c n : Int) : Decidable (Who c n) := inferInstanceAs (Decidable (_ ∧ _))
def MayR (r : Rp) : Prop := ¬ (r.rej = true ∧ (r.trap ≠ 0 ∨ r.v ≠ 0 ∨ r.gas ≠ 0)) ∧ Who r.c r.n ∧ 0 ≤ r.trap ∧ r.trap ≤ 6 ∧ 0 ≤ r.gas ∧ r.gas ≤ 1048576
instance (r : Rp) : Decidable (MayR r) := inferInstanceAs (Decidable (_ ∧ _))
/-- what Begin says -/
def beginE (x : Option TR) (c n : Int) : Int := if Who c n then (match x with | some x => if n < x.num then 210 else if n = x.num then 5 else 0 | none => 0) else 1
/-- what Finish says -/
def finishE (x : Option TR) (r : Rp) : Int := if MayR r then (match x with | some x => if x.num = r.n then (if x.done then 5 else 0) else 4 | none => 4) else 1
/-! ### Pairs that were seen -/
def prV (p : Int × Int) : Value := .agg ⟨[.int .i64 p.1, .int .i64 p.2]⟩
def prE (x : (Int × Int) × Nat) : DEntry := { key := prV x.1, val := .bool true, born := x.2 }

theorem pr_key (p q : Int × Int) : keyEq (.agg [.i64, .i64]) (prV p) (prV q) = some (decide (p = q)) := by
  obtain ⟨a, b⟩ := p
  obtain ⟨c, d⟩ := q
  by_cases h1 : a = c
  · by_cases h2 : b = d
    · simp [keyEq, prV, aggEq, h1, h2]
    · simp [keyEq, prV, aggEq, h1, h2]
  · simp [keyEq, prV, aggEq, h1]
theorem pr_none : ∀ (D : List ((Int × Int) × Nat)) (p : Int × Int) (n : Nat), (∀ x, x ∈ D → x.1 ≠ p) → findE (.agg [.i64, .i64]) (prV p) (D.map prE) n = some none
  | [], _, _, _ => rfl
  | x :: D, p, n, h => by
    have e1 : keyEq (.agg [.i64, .i64]) (prV p) (prE x).key = some (decide (p = x.1)) := pr_key p x.1
    have h1 := h x (List.mem_cons_self ..)
    simp only [List.map_cons]
    unfold findE
    rw [e1, decide_eq_false (fun e => h1 e.symm)]
    exact pr_none D p (n + 1) fun y hy => h y (List.mem_cons_of_mem _ hy)
/-- what was finished stands in the rows -/
def DoneOk (M : TRs) (D : List ((Int × Int) × Nat)) : Prop := ∀ x, x ∈ D → ∃ r, rowOf M x.1.1 = some r ∧ (x.1.2 < r.num ∨ (x.1.2 = r.num ∧ r.done = true))
def lastN (x : Option TR) : Int := (x.map (·.num)).getD 0

theorem begin_who {x : Option TR} {c n : Int} (h : beginE x c n = 0) : Who c n := by
  unfold beginE at h
  split at h
  · assumption
  · simp at h
theorem begin_gt {x : TR} {c n : Int} (h : beginE (some x) c n = 0) : x.num < n := by
  have hw := begin_who h
  unfold beginE at h
  rw [if_pos hw] at h
  simp only at h
  by_cases h1 : n < x.num
  · rw [if_pos h1] at h; omega
  · rw [if_neg h1] at h
    by_cases h2 : n = x.num
    · rw [if_pos h2] at h; omega
    · omega
theorem fin_row {x : Option TR} {r : Rp} (h : finishE x r = 0) : ∃ y, x = some y ∧ y.num = r.n ∧ y.done = false := by
  unfold finishE at h
  split at h
  · cases x with
    | none => simp at h
    | some y =>
      simp only at h
      split at h
      · rename_i e
        cases hd : y.done with
        | true => rw [hd] at h; simp at h
        | false => exact ⟨y, rfl, e, hd⟩
      · simp at h
  · simp at h
theorem fin_may {x : Option TR} {r : Rp} (h : finishE x r = 0) : MayR r := by
  unfold finishE at h
  split at h
  · assumption
  · simp at h
theorem fits_of {n : Int} (h1 : 0 ≤ n) (h2 : n ≤ 1099511627776) : fitsK .i64 n = true := by
  simp only [fitsK, Bool.and_eq_true, decide_eq_true_eq]
  omega
end Go.Dx.Tab
