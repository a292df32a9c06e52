/- A part. -/
import Derived.Test.YthmgnfeljhdioaaGreatDxRel
import Derived.Laws.Strings
import Derived.Laws.Concat
set_option linter.unusedVariables false
set_option linter.unusedSimpArgs false
set_option linter.unusedSectionVars false
namespace Go.Dx
open Go
theorem Gb (k : IntKind) : (2 ^ k.bits : Nat) = zz k := by cases k <;> rfl
theorem Qg (k : IntKind) : (2 ^ k.bits : Int) = (zz k : Int) := by cases k <;> rfl
theorem CB (k : IntKind) : (2 ^ (k.bits - 1) : Int) = (W3 k : Int) := by cases k <;> rfl
theorem Q1 (k : IntKind) : 0 < zz k := by cases k <;> decide
theorem Gk (k : IntKind) : k.signed = YV k := by cases k <;> rfl
theorem CK (k : IntKind) : k.bits = bitsOf k := by cases k <;> rfl
theorem JX (k : IntKind) (n : Int) : (low k n : Int) = n % (zz k : Int) := by
 have hp := Q1 k
 cases n with
 | ofNat n => simp [low]
 | negSucc n =>
  simp only [low]
  have h1 : n % zz k < zz k := Nat.mod_lt _ hp
  rw [Int.emod_def, Int.negSucc_ediv _ (by omega : (0 : Int) < (zz k : Int))]
  have h2 : (n : Int) = zz k * (n / zz k : Nat) + (n % zz k : Nat) := by
   have := Nat.div_add_mod n (zz k)
   exact_mod_cast this.symm
  have h3 : ((zz k - 1 - n % zz k : Nat) : Int) = (zz k : Int) - 1 - (n % zz k : Nat) := by omega
  rw [h3, Int.negSucc_eq]
  have h4 : (n : Int).ediv (zz k : Int) = ((n / zz k : Nat) : Int) := by
   show (n : Int) / (zz k : Int) = _
   simp
  rw [h4, Int.mul_neg, Int.mul_add, Int.mul_one]
  generalize (zz k : Int) * ((n / zz k : Nat) : Int) = q at *
  omega
theorem P4 (k : IntKind) (n : Int) : low k n < zz k := by
 have h := JX k n
 have hp := Q1 k
 have := Int.emod_lt_of_pos n (show (0 : Int) < zz k by omega)
 omega
theorem Za (k : IntKind) (n : Int) : zw k n = k.wrap n := by
 unfold zw IntKind.wrap
 simp only [Qg, CB, Gk, ← JX]
 have hl := P4 k n
 cases YV k with
 | false => simp
 | true =>
  simp only [if_true, Bool.true_and]
  by_cases h : W3 k ≤ low k n
  · have hb : Nat.ble (W3 k) (low k n) = true := Nat.ble_eq_true_of_le h
    rw [if_pos hb, if_pos (by simp; omega)]
    rw [Int.negSucc_eq]
    omega
  · have hb : ¬ Nat.ble (W3 k) (low k n) = true := by rw [Nat.ble_eq]; exact h
    rw [if_neg hb, if_neg (by simp; omega)]
    rfl
theorem QH (k : IntKind) (n : Int) : (n % (2 ^ k.bits : Int)).toNat = low k n := by
 rw [Qg, ← JX]; rfl
theorem FD (k : IntKind) (n : Int) : (n % (zz k : Int)).toNat = low k n := by
 rw [← JX]; rfl
section
variable {P : Program} {w : World}
theorem GM {op : BinOp} {k : IntKind} {a b : Int} {v : Value} (h : zl op k a b = some v) :
 (match op with
 | .add | .sub | .mul => Op.intArith op k a b
 | .quo | .rem => Op.intDiv op k a b
 | .and | .or | .xor | .andNot => Op.intBits op k a b
 | _ => Op.intCmp op a b : Sem Value).run P w = .ok v w := by
 cases op <;> simp only [zl, z2, reduceCtorEq] at h
 case add => subst h; simp [Op.intArith, Za]
 case sub => subst h; simp [Op.intArith, Za]
 case mul => subst h; simp [Op.intArith, Za]
 case quo =>
  by_cases hb : b = 0
  · simp [hb] at h
  · simp only [hb, if_false, z2] at h; subst h; simp [Op.intDiv, hb, Za]
 case rem =>
  by_cases hb : b = 0
  · simp [hb] at h
  · simp only [hb, if_false, z2] at h; subst h; simp [Op.intDiv, hb]
 case and => subst h; simp [Op.intBits, Za, QH]
 case or => subst h; simp [Op.intBits, Za, QH]
 case xor => subst h; simp [Op.intBits, Za, QH]
 case andNot => subst h; simp [Op.intBits, Za, Gb, FD]
 case eql => subst h; simp [Op.intCmp]; rfl
 case neq => subst h; simp [Op.intCmp, bne]; rfl
 case lss => subst h; simp [Op.intCmp]
 case leq => subst h; simp [Op.intCmp]
 case gtr => subst h; simp [Op.intCmp]
 case geq => subst h; simp [Op.intCmp]
theorem XQ {op : BinOp} {k yk : IntKind} {a b : Int} {v : Value} (h : ZD op k a b = some v) : (Op.shift op k a yk b).run P w = .ok v w := by
 unfold ZD at h
 unfold Op.shift
 by_cases hb : b < 0
 · simp [hb] at h
 · simp only [hb, if_false] at h ⊢
   have hn : (if Nat.ble (bitsOf k) b.toNat = true then bitsOf k else b.toNat) = min b.toNat k.bits := by
    rw [CK]
    by_cases e : bitsOf k ≤ b.toNat
    · rw [if_pos (Nat.ble_eq_true_of_le e)]; omega
    · rw [if_neg (by rw [Nat.ble_eq]; exact e)]; omega
   rw [hn] at h
   have hp : (Int.ofNat (2 ^ min b.toNat k.bits)) = (2 : Int) ^ min b.toNat k.bits := by
    rw [Int.ofNat_eq_natCast]; exact Int.natCast_pow 2 _
   cases op <;> simp only [z2, reduceCtorEq] at h
   case shl => subst h; simp [Za, hp]
   case shr => subst h; simp [hp]
theorem Z2 : ∀ (x y : List UInt8), Yi x y = (x == y)
 | [], [] => rfl
 | [], _ :: _ => rfl
 | _ :: _, [] => rfl
 | a :: x, b :: y => by
  have := Z2 x y
  simp only [Yi, this]
  by_cases e : a = b
  · subst e; simp
  · have h1 : ¬ a.toNat = b.toNat := fun h => e (UInt8.toNat_inj.1 h)
    have h2 : Nat.beq a.toNat b.toNat = false := by
     cases h : Nat.beq a.toNat b.toNat with
     | false => rfl
     | true => exact absurd (Nat.eq_of_beq_eq_true h) h1
    have h3 : (a == b) = false := by simpa using e
    rw [h2]
    simp [h3]
theorem bytesLess_eq : ∀ (x y : List UInt8), bytesLess x y = Op.bytesLess x y
 | [], [] => rfl
 | _ :: _, [] => rfl
 | [], _ :: _ => rfl
 | a :: x, b :: y => by
  have := bytesLess_eq x y
  simp only [bytesLess, Op.bytesLess, this]
  have h1 : Nat.blt a.toNat b.toNat = decide (a < b) := by
   rw [Bool.eq_iff_iff]; simp [Nat.blt_eq, UInt8.lt_iff_toNat_lt]
  have h2 : Nat.beq a.toNat b.toNat = (a == b) := by
   rw [Bool.eq_iff_iff]; simp [Nat.beq_eq, UInt8.toNat_inj]
  rw [h1, h2]
theorem toList_data (b : ByteArray) : b.toList = b.data.toList := ByteArray.toList_eq b
theorem Se {op : BinOp} {a b : ByteArray} {v : Value} (h : GH op a b = some v) : (Op.stringOp op a b).run P w = .ok v w := by
 unfold GH at h
 unfold Op.stringOp
 simp only [toList_data, Z2, bytesLess_eq] at h ⊢
 cases op <;> simp only [z2, reduceCtorEq] at h
 case add =>
  have hs : a.data.toList.length = a.size ∧ b.data.toList.length = b.size := ⟨rfl, rfl⟩
  rw [hs.1, hs.2] at h
  by_cases hb : a.size + b.size ≤ 1099511627776
  · rw [if_pos (Nat.ble_eq_true_of_le hb)] at h
    have hm : ¬ (((a.size + b.size : Nat) : Int) > IntKind.i64.max) := by simp [IntKind.max, IntKind.signed, IntKind.bits]; omega
    rw [if_neg hm]
    cases h
    simp only [Sem.run_pure, Result.ok.injEq, and_true, Value.string.injEq]
    apply ByteArray.ext
    simp [ByteArray.data_append]
  · rw [if_neg (by intro e; exact hb (Nat.le_of_ble_eq_true e))] at h; cases h
 all_goals subst h; rfl
theorem Si {op : BinOp} {x y : Value} {v : Value} (t : TypeId) (h : zp op x y = some v) : (binOp op t x y).run P w = .ok v w := by
 unfold zp at h
 split at h
 · rename_i k a k' b
   by_cases hk : k = k'
   · subst hk
     cases op
     case shl => exact XQ (op := .shl) (yk := k) h
     case shr => exact XQ (op := .shr) (yk := k) h
     all_goals (simp only [if_true] at h; have := GM (P := P) (w := w) h; simpa [binOp] using this)
   · cases op
     case shl => exact XQ (op := .shl) (yk := k') h
     case shr => exact XQ (op := .shr) (yk := k') h
     all_goals (simp [hk] at h)
 · have := Se (P := P) (w := w) h
   cases op <;> simpa [binOp] using this
 · cases h
end
end Go.Dx
