/- Reckon, of the program and of the reference: the same, whatever the numbers; and the law that says so. -/
import Derived.Test.YtiiohhhabkdglaaGreatDxSym
import Derived.Test.YtiiohhhabkdglaaGreatDxRow
import Derived.Test.YtiiohhhabkdglaaGreatDxIn
namespace Go.Proofs.YtiiohhhabkdglaaGreat.reck
open Go Go.Dx
set_option maxRecDepth 100000
set_option linter.unusedSimpArgs false
set_option linter.unusedVariables false
set_option maxHeartbeats 1000000
def fnT (k : Nat) : Option DFunc := match k with | 3 => some d3 | 8 => some d8 | 9 => some d9 | 16 => some d16 | 17 => some d17 | _ => none
def E : Env := { fn := fnT, intr := fun k => match k with | 10 => some trueD | _ => none, lf := 100000 }
theorem c8 {d : Nat} {args : List Value} {s : DS} (hl : Nat.ble args.length d8.ntmps = true) : dcall E (d + 1) (.func (.func 8) #[] #[]) args s = entered E d d8 args s := sym_call rfl rfl hl
theorem c9 {d : Nat} {args : List Value} {s : DS} (hl : Nat.ble args.length d9.ntmps = true) : dcall E (d + 1) (.func (.func 9) #[] #[]) args s = entered E d d9 args s := sym_call rfl rfl hl
theorem c16 {d : Nat} {args : List Value} {s : DS} (hl : Nat.ble args.length d16.ntmps = true) : dcall E (d + 1) (.func (.func 16) #[] #[]) args s = entered E d d16 args s := sym_call rfl rfl hl
theorem c17 {d : Nat} {args : List Value} {s : DS} (hl : Nat.ble args.length d17.ntmps = true) : dcall E (d + 1) (.func (.func 17) #[] #[]) args s = entered E d d17 args s := sym_call rfl rfl hl
theorem div0 (a : Int) (s : DS) (d : Nat) : dcall E (d + 1) (.func (.func 16) #[] #[]) [.int .i64 a, .int .i64 0] s = some (.tuple #[.int .i64 0, .int .i64 0, .bool false], s) := by
  rw [c16 rfl]
  simp [entered, pp, pv, pg, pw, tm, d8, d9, d16, d17, dcode, sym_op, sym_nil, dop, DOp.cls, dpure, dbin, dint, ev, putT, PT.get_put, ofList_get, killAll, dresults, tupled, getN]
theorem div1 (a : Int) (s : DS) (d : Nat) : dcall E (d + 1) (.func (.func 16) #[] #[]) [.int .i64 a, .int .i64 (-1)] s = some (.tuple #[.int .i64 (dwrap .i64 (0 - a)), .int .i64 0, .bool true], s) := by
  rw [c16 rfl]
  simp [entered, pp, pv, pg, pw, tm, d8, d9, d16, d17, dcode, sym_op, sym_nil, dop, DOp.cls, dpure, dbin, dint, ev, putT, PT.get_put, ofList_get, killAll, dresults, tupled, getN]
theorem div2 (a b : Int) (h0 : b ≠ 0) (h1 : b ≠ -1) (s : DS) (d : Nat) : dcall E (d + 1) (.func (.func 16) #[] #[]) [.int .i64 a, .int .i64 b] s = some (.tuple #[.int .i64 (dwrap .i64 (a.tdiv b)), .int .i64 (a.tmod b), .bool true], s) := by
  rw [c16 rfl]
  simp [entered, pp, pv, pg, pw, tm, d8, d9, d16, d17, dcode, sym_op, sym_nil, dop, DOp.cls, dpure, dbin, dint, ev, putT, PT.get_put, ofList_get, killAll, dresults, tupled, getN, h0, h1]
theorem tru (q : Bool) (s : DS) (d : Nat) : dcall E (d + 1) (.func (.func 17) #[] #[]) [.bool q] s = some (.int .i64 (if q then 1 else 0), s) := by
  rw [c17 rfl]
  cases q <;> simp [entered, pp, pv, pg, pw, tm, d8, d9, d16, d17, dcode, sym_op, sym_nil, dop, DOp.cls, dpure, dbin, dint, ev, putT, PT.get_put, ofList_get, killAll, dresults, tupled, getN]
theorem op8 (a b : Int) (s : DS) (d : Nat) : ∃ (v : Int) (k : Bool), dcall E (d + 2) (.func (.func 8) #[] #[]) [.int .i64 8, .int .i64 a, .int .i64 b] s = some (.tuple #[.int .i64 v, .bool k], s) ∧ dcall E (d + 2) (.func (.func 9) #[] #[]) [.int .i64 8, .int .i64 a, .int .i64 b] s = some (.tuple #[.int .i64 v, .bool k], s) := by
  rw [c8 rfl, c9 rfl]
  simp [entered, pp, pv, pg, pw, tm, d8, d9, d16, d17, dcode, sym_op, sym_nil, dop, DOp.cls, dpure, dbin, dint, ev, putT, PT.get_put, ofList_get, killAll, dresults, tupled, getN]
theorem op9 (a b : Int) (s : DS) (d : Nat) : ∃ (v : Int) (k : Bool), dcall E (d + 2) (.func (.func 8) #[] #[]) [.int .i64 9, .int .i64 a, .int .i64 b] s = some (.tuple #[.int .i64 v, .bool k], s) ∧ dcall E (d + 2) (.func (.func 9) #[] #[]) [.int .i64 9, .int .i64 a, .int .i64 b] s = some (.tuple #[.int .i64 v, .bool k], s) := by
  rw [c8 rfl, c9 rfl]
  simp [entered, pp, pv, pg, pw, tm, d8, d9, d16, d17, dcode, sym_op, sym_nil, dop, DOp.cls, dpure, dbin, dint, ev, putT, PT.get_put, ofList_get, killAll, dresults, tupled, getN]
theorem op10 (a b : Int) (s : DS) (d : Nat) : ∃ (v : Int) (k : Bool), dcall E (d + 2) (.func (.func 8) #[] #[]) [.int .i64 10, .int .i64 a, .int .i64 b] s = some (.tuple #[.int .i64 v, .bool k], s) ∧ dcall E (d + 2) (.func (.func 9) #[] #[]) [.int .i64 10, .int .i64 a, .int .i64 b] s = some (.tuple #[.int .i64 v, .bool k], s) := by
  rw [c8 rfl, c9 rfl]
  simp [entered, pp, pv, pg, pw, tm, d8, d9, d16, d17, dcode, sym_op, sym_nil, dop, DOp.cls, dpure, dbin, dint, ev, putT, PT.get_put, ofList_get, killAll, dresults, tupled, getN]
theorem op13 (a b : Int) (s : DS) (d : Nat) : ∃ (v : Int) (k : Bool), dcall E (d + 2) (.func (.func 8) #[] #[]) [.int .i64 13, .int .i64 a, .int .i64 b] s = some (.tuple #[.int .i64 v, .bool k], s) ∧ dcall E (d + 2) (.func (.func 9) #[] #[]) [.int .i64 13, .int .i64 a, .int .i64 b] s = some (.tuple #[.int .i64 v, .bool k], s) := by
  rw [c8 rfl, c9 rfl]
  simp [entered, pp, pv, pg, pw, tm, d8, d9, d16, d17, dcode, sym_op, sym_nil, dop, DOp.cls, dpure, dbin, dint, ev, putT, PT.get_put, ofList_get, killAll, dresults, tupled, getN]
theorem op14 (a b : Int) (s : DS) (d : Nat) : ∃ (v : Int) (k : Bool), dcall E (d + 2) (.func (.func 8) #[] #[]) [.int .i64 14, .int .i64 a, .int .i64 b] s = some (.tuple #[.int .i64 v, .bool k], s) ∧ dcall E (d + 2) (.func (.func 9) #[] #[]) [.int .i64 14, .int .i64 a, .int .i64 b] s = some (.tuple #[.int .i64 v, .bool k], s) := by
  rw [c8 rfl, c9 rfl]
  simp [entered, pp, pv, pg, pw, tm, d8, d9, d16, d17, dcode, sym_op, sym_nil, dop, DOp.cls, dpure, dbin, dint, ev, putT, PT.get_put, ofList_get, killAll, dresults, tupled, getN]
theorem op15 (a b : Int) (s : DS) (d : Nat) : ∃ (v : Int) (k : Bool), dcall E (d + 2) (.func (.func 8) #[] #[]) [.int .i64 15, .int .i64 a, .int .i64 b] s = some (.tuple #[.int .i64 v, .bool k], s) ∧ dcall E (d + 2) (.func (.func 9) #[] #[]) [.int .i64 15, .int .i64 a, .int .i64 b] s = some (.tuple #[.int .i64 v, .bool k], s) := by
  rw [c8 rfl, c9 rfl]
  simp [entered, pp, pv, pg, pw, tm, d8, d9, d16, d17, dcode, sym_op, sym_nil, dop, DOp.cls, dpure, dbin, dint, ev, putT, PT.get_put, ofList_get, killAll, dresults, tupled, getN]
theorem op18 (a b : Int) (s : DS) (d : Nat) : ∃ (v : Int) (k : Bool), dcall E (d + 2) (.func (.func 8) #[] #[]) [.int .i64 18, .int .i64 a, .int .i64 b] s = some (.tuple #[.int .i64 v, .bool k], s) ∧ dcall E (d + 2) (.func (.func 9) #[] #[]) [.int .i64 18, .int .i64 a, .int .i64 b] s = some (.tuple #[.int .i64 v, .bool k], s) := by
  rw [c8 rfl, c9 rfl]
  simp [entered, pp, pv, pg, pw, tm, d8, d9, d16, d17, dcode, sym_op, sym_nil, dop, DOp.cls, dpure, dbin, dint, ev, putT, PT.get_put, ofList_get, killAll, dresults, tupled, getN]
theorem op19 (a b : Int) (s : DS) (d : Nat) : ∃ (v : Int) (k : Bool), dcall E (d + 2) (.func (.func 8) #[] #[]) [.int .i64 19, .int .i64 a, .int .i64 b] s = some (.tuple #[.int .i64 v, .bool k], s) ∧ dcall E (d + 2) (.func (.func 9) #[] #[]) [.int .i64 19, .int .i64 a, .int .i64 b] s = some (.tuple #[.int .i64 v, .bool k], s) := by
  rw [c8 rfl, c9 rfl]
  simp [entered, pp, pv, pg, pw, tm, d8, d9, d16, d17, dcode, sym_op, sym_nil, dop, DOp.cls, dpure, dbin, dint, ev, putT, PT.get_put, ofList_get, killAll, dresults, tupled, getN]
theorem op11 (a b : Int) (s : DS) (d : Nat) : ∃ (v : Int) (k : Bool), dcall E (d + 2) (.func (.func 8) #[] #[]) [.int .i64 11, .int .i64 a, .int .i64 b] s = some (.tuple #[.int .i64 v, .bool k], s) ∧ dcall E (d + 2) (.func (.func 9) #[] #[]) [.int .i64 11, .int .i64 a, .int .i64 b] s = some (.tuple #[.int .i64 v, .bool k], s) := by
  rw [c8 rfl, c9 rfl]
  by_cases h0 : b = 0
  · subst h0
    simp [entered, pp, pv, pg, pw, tm, d8, d9, d16, d17, dcode, sym_op, sym_nil, dop, DOp.cls, dpure, dbin, dint, ev, putT, PT.get_put, ofList_get, killAll, dresults, tupled, getN, div0]
  · by_cases h1 : b = -1
    · subst h1
      simp [entered, pp, pv, pg, pw, tm, d8, d9, d16, d17, dcode, sym_op, sym_nil, dop, DOp.cls, dpure, dbin, dint, ev, putT, PT.get_put, ofList_get, killAll, dresults, tupled, getN, div1]
    · simp [entered, pp, pv, pg, pw, tm, d8, d9, d16, d17, dcode, sym_op, sym_nil, dop, DOp.cls, dpure, dbin, dint, ev, putT, PT.get_put, ofList_get, killAll, dresults, tupled, getN, div2 a b h0 h1, h0, h1]
theorem op12 (a b : Int) (s : DS) (d : Nat) : ∃ (v : Int) (k : Bool), dcall E (d + 2) (.func (.func 8) #[] #[]) [.int .i64 12, .int .i64 a, .int .i64 b] s = some (.tuple #[.int .i64 v, .bool k], s) ∧ dcall E (d + 2) (.func (.func 9) #[] #[]) [.int .i64 12, .int .i64 a, .int .i64 b] s = some (.tuple #[.int .i64 v, .bool k], s) := by
  rw [c8 rfl, c9 rfl]
  by_cases h0 : b = 0
  · subst h0
    simp [entered, pp, pv, pg, pw, tm, d8, d9, d16, d17, dcode, sym_op, sym_nil, dop, DOp.cls, dpure, dbin, dint, ev, putT, PT.get_put, ofList_get, killAll, dresults, tupled, getN, div0]
  · by_cases h1 : b = -1
    · subst h1
      simp [entered, pp, pv, pg, pw, tm, d8, d9, d16, d17, dcode, sym_op, sym_nil, dop, DOp.cls, dpure, dbin, dint, ev, putT, PT.get_put, ofList_get, killAll, dresults, tupled, getN, div1]
    · simp [entered, pp, pv, pg, pw, tm, d8, d9, d16, d17, dcode, sym_op, sym_nil, dop, DOp.cls, dpure, dbin, dint, ev, putT, PT.get_put, ofList_get, killAll, dresults, tupled, getN, div2 a b h0 h1, h0, h1]
theorem op20 (a b : Int) (s : DS) (d : Nat) : ∃ (v : Int) (k : Bool), dcall E (d + 2) (.func (.func 8) #[] #[]) [.int .i64 20, .int .i64 a, .int .i64 b] s = some (.tuple #[.int .i64 v, .bool k], s) ∧ dcall E (d + 2) (.func (.func 9) #[] #[]) [.int .i64 20, .int .i64 a, .int .i64 b] s = some (.tuple #[.int .i64 v, .bool k], s) := by
  rw [c8 rfl, c9 rfl]
  by_cases h : a = b
  · simp [entered, pp, pv, pg, pw, tm, d8, d9, d16, d17, dcode, sym_op, sym_nil, dop, DOp.cls, dpure, dbin, dint, ev, putT, PT.get_put, ofList_get, killAll, dresults, tupled, getN, tru, h]
  · simp [entered, pp, pv, pg, pw, tm, d8, d9, d16, d17, dcode, sym_op, sym_nil, dop, DOp.cls, dpure, dbin, dint, ev, putT, PT.get_put, ofList_get, killAll, dresults, tupled, getN, tru, h]
theorem op21 (a b : Int) (s : DS) (d : Nat) : ∃ (v : Int) (k : Bool), dcall E (d + 2) (.func (.func 8) #[] #[]) [.int .i64 21, .int .i64 a, .int .i64 b] s = some (.tuple #[.int .i64 v, .bool k], s) ∧ dcall E (d + 2) (.func (.func 9) #[] #[]) [.int .i64 21, .int .i64 a, .int .i64 b] s = some (.tuple #[.int .i64 v, .bool k], s) := by
  rw [c8 rfl, c9 rfl]
  by_cases h : a = b
  · simp [entered, pp, pv, pg, pw, tm, d8, d9, d16, d17, dcode, sym_op, sym_nil, dop, DOp.cls, dpure, dbin, dint, ev, putT, PT.get_put, ofList_get, killAll, dresults, tupled, getN, tru, h]
  · simp [entered, pp, pv, pg, pw, tm, d8, d9, d16, d17, dcode, sym_op, sym_nil, dop, DOp.cls, dpure, dbin, dint, ev, putT, PT.get_put, ofList_get, killAll, dresults, tupled, getN, tru, h]
theorem op22 (a b : Int) (s : DS) (d : Nat) : ∃ (v : Int) (k : Bool), dcall E (d + 2) (.func (.func 8) #[] #[]) [.int .i64 22, .int .i64 a, .int .i64 b] s = some (.tuple #[.int .i64 v, .bool k], s) ∧ dcall E (d + 2) (.func (.func 9) #[] #[]) [.int .i64 22, .int .i64 a, .int .i64 b] s = some (.tuple #[.int .i64 v, .bool k], s) := by
  rw [c8 rfl, c9 rfl]
  by_cases h : a < b
  · simp [entered, pp, pv, pg, pw, tm, d8, d9, d16, d17, dcode, sym_op, sym_nil, dop, DOp.cls, dpure, dbin, dint, ev, putT, PT.get_put, ofList_get, killAll, dresults, tupled, getN, tru, h]
  · simp [entered, pp, pv, pg, pw, tm, d8, d9, d16, d17, dcode, sym_op, sym_nil, dop, DOp.cls, dpure, dbin, dint, ev, putT, PT.get_put, ofList_get, killAll, dresults, tupled, getN, tru, h]
theorem op23 (a b : Int) (s : DS) (d : Nat) : ∃ (v : Int) (k : Bool), dcall E (d + 2) (.func (.func 8) #[] #[]) [.int .i64 23, .int .i64 a, .int .i64 b] s = some (.tuple #[.int .i64 v, .bool k], s) ∧ dcall E (d + 2) (.func (.func 9) #[] #[]) [.int .i64 23, .int .i64 a, .int .i64 b] s = some (.tuple #[.int .i64 v, .bool k], s) := by
  rw [c8 rfl, c9 rfl]
  by_cases h : a ≤ b
  · simp [entered, pp, pv, pg, pw, tm, d8, d9, d16, d17, dcode, sym_op, sym_nil, dop, DOp.cls, dpure, dbin, dint, ev, putT, PT.get_put, ofList_get, killAll, dresults, tupled, getN, tru, h]
  · simp [entered, pp, pv, pg, pw, tm, d8, d9, d16, d17, dcode, sym_op, sym_nil, dop, DOp.cls, dpure, dbin, dint, ev, putT, PT.get_put, ofList_get, killAll, dresults, tupled, getN, tru, h]
/-- by how much is shifted -/
def sh63 (b : Int) : Nat := low .i64 b % 64
theorem sh63_lt (b : Int) : sh63 b < 64 := Nat.mod_lt _ (by decide)
theorem sh_a (b : Int) : dwrap .i64 ((low .i64 b &&& low .i64 63 : Nat) : Int) = (sh63 b : Int) := by
  have e : low .i64 b &&& low .i64 63 = sh63 b := by
    show low .i64 b &&& 63 = _
    exact Nat.and_two_pow_sub_one_eq_mod _ 6
  rw [e]
  have h := sh63_lt b
  have hl : low .i64 ((sh63 b : Nat) : Int) = sh63 b := Nat.mod_eq_of_lt (by simp only [modulus]; omega)
  unfold dwrap
  simp only [hl, isSigned, halfOf, if_true]
  rw [if_neg (by rw [Nat.ble_eq]; omega)]
  rfl
theorem sh_b (b : Int) : (dwrap .u64 b).tmod 64 = (sh63 b : Int) := by
  show Int.tmod (Int.ofNat (low .u64 b)) (Int.ofNat 64) = _
  rfl
theorem sh_l (a b : Int) : dshift .shl .i64 a (sh63 b : Int) = some (.int .i64 (dwrap .i64 (a * Int.ofNat (2 ^ sh63 b)))) := by
  have h := sh63_lt b
  unfold dshift
  rw [if_neg (by omega)]
  have hb : Nat.ble (bitsOf .i64) (Int.toNat (sh63 b : Int)) = false := by
    simp only [Int.toNat_natCast]
    rw [Bool.eq_false_iff]
    intro hh
    have := Nat.le_of_ble_eq_true hh
    simp only [bitsOf] at this
    omega
  simp only [hb]
  rfl
theorem sh_r (a b : Int) : dshift .shr .i64 a (sh63 b : Int) = some (.int .i64 (a.fdiv (Int.ofNat (2 ^ sh63 b)))) := by
  have h := sh63_lt b
  unfold dshift
  rw [if_neg (by omega)]
  have hb : Nat.ble (bitsOf .i64) (Int.toNat (sh63 b : Int)) = false := by
    simp only [Int.toNat_natCast]
    rw [Bool.eq_false_iff]
    intro hh
    have := Nat.le_of_ble_eq_true hh
    simp only [bitsOf] at this
    omega
  simp only [hb]
  rfl
theorem op16 (a b : Int) (s : DS) (d : Nat) : ∃ (v : Int) (k : Bool), dcall E (d + 2) (.func (.func 8) #[] #[]) [.int .i64 16, .int .i64 a, .int .i64 b] s = some (.tuple #[.int .i64 v, .bool k], s) ∧ dcall E (d + 2) (.func (.func 9) #[] #[]) [.int .i64 16, .int .i64 a, .int .i64 b] s = some (.tuple #[.int .i64 v, .bool k], s) := by
  rw [c8 rfl, c9 rfl]
  simp [entered, pp, pv, pg, pw, tm, d8, d9, d16, d17, dcode, sym_op, sym_nil, dop, DOp.cls, dpure, dbin, dint, ev, putT, PT.get_put, ofList_get, killAll, dresults, tupled, getN, sh_a, sh_b, sh_l, sh_r]
theorem op17 (a b : Int) (s : DS) (d : Nat) : ∃ (v : Int) (k : Bool), dcall E (d + 2) (.func (.func 8) #[] #[]) [.int .i64 17, .int .i64 a, .int .i64 b] s = some (.tuple #[.int .i64 v, .bool k], s) ∧ dcall E (d + 2) (.func (.func 9) #[] #[]) [.int .i64 17, .int .i64 a, .int .i64 b] s = some (.tuple #[.int .i64 v, .bool k], s) := by
  rw [c8 rfl, c9 rfl]
  simp [entered, pp, pv, pg, pw, tm, d8, d9, d16, d17, dcode, sym_op, sym_nil, dop, DOp.cls, dpure, dbin, dint, ev, putT, PT.get_put, ofList_get, killAll, dresults, tupled, getN, sh_a, sh_b, sh_l, sh_r]
theorem opx (op a b : Int) (h8 : op ≠ 8) (h9 : op ≠ 9) (h10 : op ≠ 10) (h11 : op ≠ 11) (h12 : op ≠ 12) (h13 : op ≠ 13) (h14 : op ≠ 14) (h15 : op ≠ 15) (h16 : op ≠ 16) (h17 : op ≠ 17) (h18 : op ≠ 18) (h19 : op ≠ 19) (h20 : op ≠ 20) (h21 : op ≠ 21) (h22 : op ≠ 22) (h23 : op ≠ 23) (s : DS) (d : Nat) : ∃ (v : Int) (k : Bool), dcall E (d + 2) (.func (.func 8) #[] #[]) [.int .i64 op, .int .i64 a, .int .i64 b] s = some (.tuple #[.int .i64 v, .bool k], s) ∧ dcall E (d + 2) (.func (.func 9) #[] #[]) [.int .i64 op, .int .i64 a, .int .i64 b] s = some (.tuple #[.int .i64 v, .bool k], s) := by
  rw [c8 rfl, c9 rfl]
  simp [entered, pp, pv, pg, pw, tm, d8, d9, d16, d17, dcode, sym_op, sym_nil, dop, DOp.cls, dpure, dbin, dint, ev, putT, PT.get_put, ofList_get, killAll, dresults, tupled, getN, h8, h9, h10, h11, h12, h13, h14, h15, h16, h17, h18, h19, h20, h21, h22, h23]
theorem reck (op a b : Int) (s : DS) (d : Nat) : ∃ (v : Int) (k : Bool), dcall E (d + 2) (.func (.func 8) #[] #[]) [.int .i64 op, .int .i64 a, .int .i64 b] s = some (.tuple #[.int .i64 v, .bool k], s) ∧ dcall E (d + 2) (.func (.func 9) #[] #[]) [.int .i64 op, .int .i64 a, .int .i64 b] s = some (.tuple #[.int .i64 v, .bool k], s) := by
  by_cases h8 : op = 8
  · subst h8; exact op8 a b s d
  by_cases h9 : op = 9
  · subst h9; exact op9 a b s d
  by_cases h10 : op = 10
  · subst h10; exact op10 a b s d
  by_cases h11 : op = 11
  · subst h11; exact op11 a b s d
  by_cases h12 : op = 12
  · subst h12; exact op12 a b s d
  by_cases h13 : op = 13
  · subst h13; exact op13 a b s d
  by_cases h14 : op = 14
  · subst h14; exact op14 a b s d
  by_cases h15 : op = 15
  · subst h15; exact op15 a b s d
  by_cases h16 : op = 16
  · subst h16; exact op16 a b s d
  by_cases h17 : op = 17
  · subst h17; exact op17 a b s d
  by_cases h18 : op = 18
  · subst h18; exact op18 a b s d
  by_cases h19 : op = 19
  · subst h19; exact op19 a b s d
  by_cases h20 : op = 20
  · subst h20; exact op20 a b s d
  by_cases h21 : op = 21
  · subst h21; exact op21 a b s d
  by_cases h22 : op = 22
  · subst h22; exact op22 a b s d
  by_cases h23 : op = 23
  · subst h23; exact op23 a b s d
  exact opx op a b h8 h9 h10 h11 h12 h13 h14 h15 h16 h17 h18 h19 h20 h21 h22 h23 s d
theorem c3 {d : Nat} {args : List Value} {s : DS} (hl : Nat.ble args.length d3.ntmps = true) : dcall E (d + 1) (.func (.func 3) #[] #[]) args s = entered E d d3 args s := sym_call rfl rfl hl
theorem lives_run (s : DS) (d : Nat) : dcall E (d + 1) (.func (.func 10) #[] #[]) [] s = some (.bool true, s) := rfl
theorem run3 (op a b : Int) (s : DS) (d : Nat) : dcall E (d + 3) (.func (.func 3) #[] #[]) [.int .i64 op, .int .i64 a, .int .i64 b] s = some (.bool true, s) := by
  obtain ⟨v, k, h8, h9⟩ := reck op a b s d
  rw [c3 rfl]
  simp [entered, pp, pv, pg, pw, tm, d3, dcode, sym_op, sym_guard, sym_nil, dop, DOp.cls, dpure, dbin, dint, ev, putT, PT.get_put, ofList_get, killAll, dresults, tupled, getN, wantedD, evF_one, eqOne, lives_run, h8, h9]
end Go.Proofs.YtiiohhhabkdglaaGreat.reck
