/- A part. -/
import Derived.Test.YthmgnfeljhdioaaGreatDxRel
import Derived.Laws.Strings
import Derived.Laws.Concat
set_option linter.unusedVariables false
set_option linter.unusedSimpArgs false
set_option linter.unusedSectionVars false
namespace Go.Dx
open Go
theorem VU (k : IntKind) : (2 ^ k.bits : Nat) = zt k := by cases k <;> rfl
theorem WS (k : IntKind) : (2 ^ k.bits : Int) = (zt k : Int) := by cases k <;> rfl
theorem DQ (k : IntKind) : (2 ^ (k.bits - 1) : Int) = (WA k : Int) := by cases k <;> rfl
theorem QB (k : IntKind) : 0 < zt k := by cases k <;> decide
theorem V3 (k : IntKind) : k.signed = YB k := by cases k <;> rfl
theorem D3 (k : IntKind) : k.bits = bitsOf k := by cases k <;> rfl
theorem K9 (k : IntKind) (n : Int) : (low k n : Int) = n % (zt k : Int) := by
 have hp := QB k
 cases n with
 | ofNat n => simp [low]
 | negSucc n =>
  simp only [low]
  have h1 : n % zt k < zt k := Nat.mod_lt _ hp
  rw [Int.emod_def, Int.negSucc_ediv _ (by omega : (0 : Int) < (zt k : Int))]
  have h2 : (n : Int) = zt k * (n / zt k : Nat) + (n % zt k : Nat) := by
   have := Nat.div_add_mod n (zt k)
   exact_mod_cast this.symm
  have h3 : ((zt k - 1 - n % zt k : Nat) : Int) = (zt k : Int) - 1 - (n % zt k : Nat) := by omega
  rw [h3, Int.negSucc_eq]
  have h4 : (n : Int).ediv (zt k : Int) = ((n / zt k : Nat) : Int) := by
   show (n : Int) / (zt k : Int) = _
   simp
  rw [h4, Int.mul_neg, Int.mul_add, Int.mul_one]
  generalize (zt k : Int) * ((n / zt k : Nat) : Int) = q at *
  omega
theorem R4 (k : IntKind) (n : Int) : low k n < zt k := by
 have h := K9 k n
 have hp := QB k
 have := Int.emod_lt_of_pos n (show (0 : Int) < zt k by omega)
 omega
theorem zK (k : IntKind) (n : Int) : zv k n = k.wrap n := by
 unfold zv IntKind.wrap
 simp only [WS, DQ, V3, ← K9]
 have hl := R4 k n
 cases YB k with
 | false => simp
 | true =>
  simp only [if_true, Bool.true_and]
  by_cases h : WA k ≤ low k n
  · have hb : Nat.ble (WA k) (low k n) = true := Nat.ble_eq_true_of_le h
    rw [if_pos hb, if_pos (by simp; omega)]
    rw [Int.negSucc_eq]
    omega
  · have hb : ¬ Nat.ble (WA k) (low k n) = true := by rw [Nat.ble_eq]; exact h
    rw [if_neg hb, if_neg (by simp; omega)]
    rfl
theorem Qk (k : IntKind) (n : Int) : (n % (2 ^ k.bits : Int)).toNat = low k n := by
 rw [WS, ← K9]; rfl
theorem G6 (k : IntKind) (n : Int) : (n % (zt k : Int)).toNat = low k n := by
 rw [← K9]; rfl
section
variable {P : Program} {w : World}
theorem Gr {op : BinOp} {k : IntKind} {a b : Int} {v : Value} (h : zn op k a b = some v) :
 (match op with
 | .add | .sub | .mul => Op.intArith op k a b
 | .quo | .rem => Op.intDiv op k a b
 | .and | .or | .xor | .andNot => Op.intBits op k a b
 | _ => Op.intCmp op a b : Sem Value).run P w = .ok v w := by
 cases op <;> simp only [zn, z2, reduceCtorEq] at h
 case add => subst h; simp [Op.intArith, zK]
 case sub => subst h; simp [Op.intArith, zK]
 case mul => subst h; simp [Op.intArith, zK]
 case quo =>
  by_cases hb : b = 0
  · simp [hb] at h
  · simp only [hb, if_false, z2] at h; subst h; simp [Op.intDiv, hb, zK]
 case rem =>
  by_cases hb : b = 0
  · simp [hb] at h
  · simp only [hb, if_false, z2] at h; subst h; simp [Op.intDiv, hb]
 case and => subst h; simp [Op.intBits, zK, Qk]
 case or => subst h; simp [Op.intBits, zK, Qk]
 case xor => subst h; simp [Op.intBits, zK, Qk]
 case andNot => subst h; simp [Op.intBits, zK, VU, G6]
 case eql => subst h; simp [Op.intCmp]; rfl
 case neq => subst h; simp [Op.intCmp, bne]; rfl
 case lss => subst h; simp [Op.intCmp]
 case leq => subst h; simp [Op.intCmp]
 case gtr => subst h; simp [Op.intCmp]
 case geq => subst h; simp [Op.intCmp]
theorem Xl {op : BinOp} {k yk : IntKind} {a b : Int} {v : Value} (h : Zt op k a b = some v) : (Op.shift op k a yk b).run P w = .ok v w := by
 unfold Zt at h
 unfold Op.shift
 by_cases hb : b < 0
 · simp [hb] at h
 · simp only [hb, if_false] at h ⊢
   have hn : (if Nat.ble (bitsOf k) b.toNat = true then bitsOf k else b.toNat) = min b.toNat k.bits := by
    rw [D3]
    by_cases e : bitsOf k ≤ b.toNat
    · rw [if_pos (Nat.ble_eq_true_of_le e)]; omega
    · rw [if_neg (by rw [Nat.ble_eq]; exact e)]; omega
   rw [hn] at h
   have hp : (Int.ofNat (2 ^ min b.toNat k.bits)) = (2 : Int) ^ min b.toNat k.bits := by
    rw [Int.ofNat_eq_natCast]; exact Int.natCast_pow 2 _
   cases op <;> simp only [z2, reduceCtorEq] at h
   case shl => subst h; simp [zK, hp]
   case shr => subst h; simp [hp]
theorem ZE : ∀ (x y : List UInt8), ZN x y = (x == y)
 | [], [] => rfl
 | [], _ :: _ => rfl
 | _ :: _, [] => rfl
 | a :: x, b :: y => by
  have := ZE x y
  simp only [ZN, this]
  by_cases e : a = b
  · subst e; simp
  · have h1 : ¬ a.toNat = b.toNat := fun h => e (UInt8.toNat_inj.1 h)
    have h2 : Nat.beq a.toNat b.toNat = false := by
     cases h : Nat.beq a.toNat b.toNat with
     | false => rfl
     | true => exact absurd (Nat.eq_of_beq_eq_true h) h1
    have h3 : (a == b) = false := by simpa using e
    rw [h2]
    simp [h3]
theorem bytesLess_eq : ∀ (x y : List UInt8), bytesLess x y = Op.bytesLess x y
 | [], [] => rfl
 | _ :: _, [] => rfl
 | [], _ :: _ => rfl
 | a :: x, b :: y => by
  have := bytesLess_eq x y
  simp only [bytesLess, Op.bytesLess, this]
  have h1 : Nat.blt a.toNat b.toNat = decide (a < b) := by
   rw [Bool.eq_iff_iff]; simp [Nat.blt_eq, UInt8.lt_iff_toNat_lt]
  have h2 : Nat.beq a.toNat b.toNat = (a == b) := by
   rw [Bool.eq_iff_iff]; simp [Nat.beq_eq, UInt8.toNat_inj]
  rw [h1, h2]
theorem toList_data (b : ByteArray) : b.toList = b.data.toList := ByteArray.toList_eq b
theorem Tg {op : BinOp} {a b : ByteArray} {v : Value} (h : Kc op a b = some v) : (Op.stringOp op a b).run P w = .ok v w := by
 unfold Kc at h
 unfold Op.stringOp
 simp only [toList_data, ZE, bytesLess_eq] at h ⊢
 cases op <;> simp only [z2, reduceCtorEq] at h
 case add =>
  have hs : a.data.toList.length = a.size ∧ b.data.toList.length = b.size := ⟨rfl, rfl⟩
  rw [hs.1, hs.2] at h
  by_cases hb : a.size + b.size ≤ 1099511627776
  · rw [if_pos (Nat.ble_eq_true_of_le hb)] at h
    have hm : ¬ (((a.size + b.size : Nat) : Int) > IntKind.i64.max) := by simp [IntKind.max, IntKind.signed, IntKind.bits]; omega
    rw [if_neg hm]
    cases h
    simp only [Sem.run_pure, Result.ok.injEq, and_true, Value.string.injEq]
    apply ByteArray.ext
    simp [ByteArray.data_append]
  · rw [if_neg (by intro e; exact hb (Nat.le_of_ble_eq_true e))] at h; cases h
 all_goals subst h; rfl
theorem Tk {op : BinOp} {x y : Value} {v : Value} (t : TypeId) (h : zy op x y = some v) : (binOp op t x y).run P w = .ok v w := by
 unfold zy at h
 split at h
 · rename_i k a k' b
   by_cases hk : k = k'
   · subst hk
     cases op
     case shl => exact Xl (op := .shl) (yk := k) h
     case shr => exact Xl (op := .shr) (yk := k) h
     all_goals (simp only [if_true] at h; have := Gr (P := P) (w := w) h; simpa [binOp] using this)
   · cases op
     case shl => exact Xl (op := .shl) (yk := k') h
     case shr => exact Xl (op := .shr) (yk := k') h
     all_goals (simp [hk] at h)
 · have := Tg (P := P) (w := w) h
   cases op <;> simpa [binOp] using this
 · cases h
end
end Go.Dx
