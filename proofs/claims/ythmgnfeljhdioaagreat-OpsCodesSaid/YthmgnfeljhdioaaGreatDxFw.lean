/- A part. -/
import Derived.Test.YthmgnfeljhdioaaGreatDxIn
import Derived.Test.YthmgnfeljhdioaaGreatDxSt
set_option linter.unusedVariables false
set_option linter.unusedSimpArgs false
set_option linter.unusedSectionVars false
set_option maxRecDepth 100000
namespace Go.Dx
open Go Go.Dx.St
theorem CX (x : Int) (i : Nat) : leI x i = ((low .u64 x / 256 ^ i % 256 : Nat) : Int) := by
 have h1 : zt .u64 x = ((low .u64 x : Nat) : Int) := rfl
 unfold leI
 rw [Pa, h1, show Int.ofNat (2 ^ (8 * i)) = ((256 ^ i : Nat) : Int) by rw [Nat.pow_mul]; rfl, Int.fdiv_eq_ediv_of_nonneg _ (Int.natCast_nonneg _), ← Int.natCast_ediv]
 omega
theorem Wo (x : Int) (n : Nat) : IsB (leB x n) := fun b hb => by
 unfold leB at hb
 obtain ⟨i, _, rfl⟩ := List.mem_map.1 hb
 rw [CX]
 omega
theorem J3 (x : Int) : ∀ n, leV (leB x n) = ((low .u64 x % 256 ^ n : Nat) : Int)
 | 0 => by show (0 : Int) = _; rw [Nat.pow_zero, Nat.mod_one]; rfl
 | n + 1 => by
  rw [QR, KC, zB, J3 x n, CX, show (256 : Int) ^ n = ((256 ^ n : Nat) : Int) by rw [Int.natCast_pow]; rfl, ← Int.natCast_mul, ← Int.natCast_add, ← Nat.mod_mul, ← Nat.pow_succ]
theorem Rz (x : Int) : low .u64 x < 18446744073709551616 := by
 cases x with
 | ofNat m => show m % 18446744073709551616 < _; omega
 | negSucc m => show 18446744073709551616 - 1 - m % 18446744073709551616 < _; omega
theorem V1 {n : Nat} {l rest : List Int} (h : l.length = n) : tk n (l ++ rest, false) = (l, (rest, false)) := by
 unfold tk
 rw [if_neg (by simp; omega)]
 simp [← h]
theorem W5 {x : Int} {rest : List Int} (hx : I64 x) : rdN 8 0 (leB x 8 ++ rest, false) = (x, (rest, false)) := by
 unfold rdN
 rw [V1 (zB x 8)]
 simp only [z3, if_false, Nat.lt_irrefl, false_and]
 rw [J3, show (256 : Nat) ^ 8 = 18446744073709551616 from rfl, Nat.mod_eq_of_lt (Rz x)]
 have h1 : ((low .u64 x : Nat) : Int) = zt .u64 x := rfl
 have h2 : zt .i64 (zt .u64 x) = zt .i64 x := by
  rw [zS, zS, zS]
  simp [IntKind.wrap, IntKind.bits, IntKind.signed]
 rw [h1, h2, zW hx.1 (by have := hx.2; omega)]
theorem Rk {x most : Int} {rest : List Int} (h0 : 0 ≤ x) (h1 : x ≤ most) (h2 : most ≤ 65535) : rdN 2 most (leB x 2 ++ rest, false) = (x, (rest, false)) := by
 obtain ⟨n, rfl⟩ := Int.eq_ofNat_of_zero_le h0
 have hl : low .u64 ((n : Nat) : Int) = n := by show n % 18446744073709551616 = n; omega
 have hv : leV (leB ((n : Nat) : Int) 2) = ((n : Nat) : Int) := by rw [J3, hl, Nat.mod_eq_of_lt (by show n < 65536; omega)]
 unfold rdN
 rw [V1 (zB _ 2)]
 simp only [z3, if_false]
 rw [hv, if_neg (by omega), zW (by omega) (by omega)]
theorem Ks {α : Type} {rd : RS → α × RS} {e : α → List Int} : ∀ {xs : List α}, (∀ x, x ∈ xs → ∀ rest, rd (e x ++ rest, false) = (x, (rest, false))) → ∀ (l : List α) (rest : List Int), Ye rd xs.length l (xs.flatMap e ++ rest, false) = (l ++ xs, (rest, false))
 | [], _, l, rest => by show (l, _) = _; simp
 | x :: xs, h, l, rest => by
  show Ye rd (xs.length + 1) l _ = _
  unfold Ye
  rw [if_neg (by simp), List.flatMap_cons, List.append_assoc, h x (List.mem_cons_self ..), Ks fun y hy => h y (List.mem_cons_of_mem _ hy)]
  simp
theorem P3 {α : Type} {rd : RS → α × RS} {e : α → List Int} {xs : List α} {rest : List Int} (hl : xs.length ≤ 4096) (h : ∀ x, x ∈ xs → ∀ rest, rd (e x ++ rest, false) = (x, (rest, false))) : rdL rd (leB (xs.length : Int) 2 ++ xs.flatMap e ++ rest, false) = (xs, (rest, false)) := by
 unfold rdL
 rw [List.append_assoc, Rk (by omega) (by omega) (by omega)]
 show Ye rd xs.length [] _ = _
 rw [Ks h, List.nil_append]
end Go.Dx
