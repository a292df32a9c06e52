/- A part. -/
import Derived.Test.YthmgnfeljhdioaaGreatDxIn
import Derived.Test.YthmgnfeljhdioaaGreatDxSt
set_option linter.unusedVariables false
set_option linter.unusedSimpArgs false
set_option linter.unusedSectionVars false
set_option maxRecDepth 100000
namespace Go.Dx
open Go Go.Dx.St
theorem FM (x : Int) (i : Nat) : leI x i = ((low .u64 x / 256 ^ i % 256 : Nat) : Int) := by
 have h1 : zv .u64 x = ((low .u64 x : Nat) : Int) := rfl
 unfold leI
 rw [Tf, h1, show Int.ofNat (2 ^ (8 * i)) = ((256 ^ i : Nat) : Int) by rw [Nat.pow_mul]; rfl, Int.fdiv_eq_ediv_of_nonneg _ (Int.natCast_nonneg _), ← Int.natCast_ediv]
 omega
theorem Wa (x : Int) (n : Nat) : IsB (leB x n) := fun b hb => by
 unfold leB at hb
 obtain ⟨i, _, rfl⟩ := List.mem_map.1 hb
 rw [FM]
 omega
theorem Q3 (x : Int) : ∀ n, leV (leB x n) = ((low .u64 x % 256 ^ n : Nat) : Int)
 | 0 => by show (0 : Int) = _; rw [Nat.pow_zero, Nat.mod_one]; rfl
 | n + 1 => by
  rw [JC, V2, zX, Q3 x n, FM, show (256 : Int) ^ n = ((256 ^ n : Nat) : Int) by rw [Int.natCast_pow]; rfl, ← Int.natCast_mul, ← Int.natCast_add, ← Nat.mod_mul, ← Nat.pow_succ]
theorem CT (x : Int) : low .u64 x < 18446744073709551616 := by
 cases x with
 | ofNat m => show m % 18446744073709551616 < _; omega
 | negSucc m => show 18446744073709551616 - 1 - m % 18446744073709551616 < _; omega
theorem KS {n : Nat} {l rest : List Int} (h : l.length = n) : tk n (l ++ rest, false) = (l, (rest, false)) := by
 unfold tk
 rw [if_neg (by simp; omega)]
 simp [← h]
theorem K2 {x : Int} {rest : List Int} (hx : I64 x) : rdN 8 0 (leB x 8 ++ rest, false) = (x, (rest, false)) := by
 unfold rdN
 rw [KS (zX x 8)]
 simp only [z3, if_false, Nat.lt_irrefl, false_and]
 rw [Q3, show (256 : Nat) ^ 8 = 18446744073709551616 from rfl, Nat.mod_eq_of_lt (CT x)]
 have h1 : ((low .u64 x : Nat) : Int) = zv .u64 x := rfl
 have h2 : zv .i64 (zv .u64 x) = zv .i64 x := by
  rw [zK, zK, zK]
  simp [IntKind.wrap, IntKind.bits, IntKind.signed]
 rw [h1, h2, ZY hx.1 (by have := hx.2; omega)]
theorem CM {x most : Int} {rest : List Int} (h0 : 0 ≤ x) (h1 : x ≤ most) (h2 : most ≤ 65535) : rdN 2 most (leB x 2 ++ rest, false) = (x, (rest, false)) := by
 obtain ⟨n, rfl⟩ := Int.eq_ofNat_of_zero_le h0
 have hl : low .u64 ((n : Nat) : Int) = n := by show n % 18446744073709551616 = n; omega
 have hv : leV (leB ((n : Nat) : Int) 2) = ((n : Nat) : Int) := by rw [Q3, hl, Nat.mod_eq_of_lt (by show n < 65536; omega)]
 unfold rdN
 rw [KS (zX _ 2)]
 simp only [z3, if_false]
 rw [hv, if_neg (by omega), ZY (by omega) (by omega)]
theorem Jt {α : Type} {rd : RS → α × RS} {e : α → List Int} : ∀ {xs : List α}, (∀ x, x ∈ xs → ∀ rest, rd (e x ++ rest, false) = (x, (rest, false))) → ∀ (l : List α) (rest : List Int), Qj rd xs.length l (xs.flatMap e ++ rest, false) = (l ++ xs, (rest, false))
 | [], _, l, rest => by show (l, _) = _; simp
 | x :: xs, h, l, rest => by
  show Qj rd (xs.length + 1) l _ = _
  unfold Qj
  rw [if_neg (by simp), List.flatMap_cons, List.append_assoc, h x (List.mem_cons_self ..), Jt fun y hy => h y (List.mem_cons_of_mem _ hy)]
  simp
theorem Sc {α : Type} {rd : RS → α × RS} {e : α → List Int} {xs : List α} {rest : List Int} (hl : xs.length ≤ 4096) (h : ∀ x, x ∈ xs → ∀ rest, rd (e x ++ rest, false) = (x, (rest, false))) : rdL rd (leB (xs.length : Int) 2 ++ xs.flatMap e ++ rest, false) = (xs, (rest, false)) := by
 unfold rdL
 rw [List.append_assoc, CM (by omega) (by omega) (by omega)]
 show Qj rd xs.length [] _ = _
 rw [Jt h, List.nil_append]
end Go.Dx
