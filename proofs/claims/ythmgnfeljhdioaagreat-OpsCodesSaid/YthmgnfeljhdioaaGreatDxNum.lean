/- A part. -/
import Derived.Test.YthmgnfeljhdioaaGreatDxRel
import Derived.Laws.Strings
import Derived.Laws.Concat
set_option linter.unusedVariables false
set_option linter.unusedSimpArgs false
set_option linter.unusedSectionVars false
namespace Go.Dx
open Go
theorem Fl (k : IntKind) : (2 ^ k.bits : Nat) = zF k := by cases k <;> rfl
theorem QQ (k : IntKind) : (2 ^ k.bits : Int) = (zF k : Int) := by cases k <;> rfl
theorem T5 (k : IntKind) : (2 ^ (k.bits - 1) : Int) = (Qz k : Int) := by cases k <;> rfl
theorem JB (k : IntKind) : 0 < zF k := by cases k <;> decide
theorem Fv (k : IntKind) : k.signed = Xm k := by cases k <;> rfl
theorem Se (k : IntKind) : k.bits = bitsOf k := by cases k <;> rfl
theorem Kz (k : IntKind) (n : Int) : (low k n : Int) = n % (zF k : Int) := by
 have hp := JB k
 cases n with
 | ofNat n => simp [low]
 | negSucc n =>
  simp only [low]
  have h1 : n % zF k < zF k := Nat.mod_lt _ hp
  rw [Int.emod_def, Int.negSucc_ediv _ (by omega : (0 : Int) < (zF k : Int))]
  have h2 : (n : Int) = zF k * (n / zF k : Nat) + (n % zF k : Nat) := by
   have := Nat.div_add_mod n (zF k)
   exact_mod_cast this.symm
  have h3 : ((zF k - 1 - n % zF k : Nat) : Int) = (zF k : Int) - 1 - (n % zF k : Nat) := by omega
  rw [h3, Int.negSucc_eq]
  have h4 : (n : Int).ediv (zF k : Int) = ((n / zF k : Nat) : Int) := by
   show (n : Int) / (zF k : Int) = _
   simp
  rw [h4, Int.mul_neg, Int.mul_add, Int.mul_one]
  generalize (zF k : Int) * ((n / zF k : Nat) : Int) = q at *
  omega
theorem MS (k : IntKind) (n : Int) : low k n < zF k := by
 have h := Kz k n
 have hp := JB k
 have := Int.emod_lt_of_pos n (show (0 : Int) < zF k by omega)
 omega
theorem zS (k : IntKind) (n : Int) : zt k n = k.wrap n := by
 unfold zt IntKind.wrap
 simp only [QQ, T5, Fv, ← Kz]
 have hl := MS k n
 cases Xm k with
 | false => simp
 | true =>
  simp only [if_true, Bool.true_and]
  by_cases h : Qz k ≤ low k n
  · have hb : Nat.ble (Qz k) (low k n) = true := Nat.ble_eq_true_of_le h
    rw [if_pos hb, if_pos (by simp; omega)]
    rw [Int.negSucc_eq]
    omega
  · have hb : ¬ Nat.ble (Qz k) (low k n) = true := by rw [Nat.ble_eq]; exact h
    rw [if_neg hb, if_neg (by simp; omega)]
    rfl
theorem Ji (k : IntKind) (n : Int) : (n % (2 ^ k.bits : Int)).toNat = low k n := by
 rw [QQ, ← Kz]; rfl
theorem DV (k : IntKind) (n : Int) : (n % (zF k : Int)).toNat = low k n := by
 rw [← Kz]; rfl
section
variable {P : Program} {w : World}
theorem F3 {op : BinOp} {k : IntKind} {a b : Int} {v : Value} (h : zm op k a b = some v) :
 (match op with
 | .add | .sub | .mul => Op.intArith op k a b
 | .quo | .rem => Op.intDiv op k a b
 | .and | .or | .xor | .andNot => Op.intBits op k a b
 | _ => Op.intCmp op a b : Sem Value).run P w = .ok v w := by
 cases op <;> simp only [zm, z2, reduceCtorEq] at h
 case add => subst h; simp [Op.intArith, zS]
 case sub => subst h; simp [Op.intArith, zS]
 case mul => subst h; simp [Op.intArith, zS]
 case quo =>
  by_cases hb : b = 0
  · simp [hb] at h
  · simp only [hb, if_false, z2] at h; subst h; simp [Op.intDiv, hb, zS]
 case rem =>
  by_cases hb : b = 0
  · simp [hb] at h
  · simp only [hb, if_false, z2] at h; subst h; simp [Op.intDiv, hb]
 case and => subst h; simp [Op.intBits, zS, Ji]
 case or => subst h; simp [Op.intBits, zS, Ji]
 case xor => subst h; simp [Op.intBits, zS, Ji]
 case andNot => subst h; simp [Op.intBits, zS, Fl, DV]
 case eql => subst h; simp [Op.intCmp]; rfl
 case neq => subst h; simp [Op.intCmp, bne]; rfl
 case lss => subst h; simp [Op.intCmp]
 case leq => subst h; simp [Op.intCmp]
 case gtr => subst h; simp [Op.intCmp]
 case geq => subst h; simp [Op.intCmp]
theorem Wt {op : BinOp} {k yk : IntKind} {a b : Int} {v : Value} (h : Zr op k a b = some v) : (Op.shift op k a yk b).run P w = .ok v w := by
 unfold Zr at h
 unfold Op.shift
 by_cases hb : b < 0
 · simp [hb] at h
 · simp only [hb, if_false] at h ⊢
   have hn : (if Nat.ble (bitsOf k) b.toNat = true then bitsOf k else b.toNat) = min b.toNat k.bits := by
    rw [Se]
    by_cases e : bitsOf k ≤ b.toNat
    · rw [if_pos (Nat.ble_eq_true_of_le e)]; omega
    · rw [if_neg (by rw [Nat.ble_eq]; exact e)]; omega
   rw [hn] at h
   have hp : (Int.ofNat (2 ^ min b.toNat k.bits)) = (2 : Int) ^ min b.toNat k.bits := by
    rw [Int.ofNat_eq_natCast]; exact Int.natCast_pow 2 _
   cases op <;> simp only [z2, reduceCtorEq] at h
   case shl => subst h; simp [zS, hp]
   case shr => subst h; simp [hp]
theorem Z7 : ∀ (x y : List UInt8), Yk x y = (x == y)
 | [], [] => rfl
 | [], _ :: _ => rfl
 | _ :: _, [] => rfl
 | a :: x, b :: y => by
  have := Z7 x y
  simp only [Yk, this]
  by_cases e : a = b
  · subst e; simp
  · have h1 : ¬ a.toNat = b.toNat := fun h => e (UInt8.toNat_inj.1 h)
    have h2 : Nat.beq a.toNat b.toNat = false := by
     cases h : Nat.beq a.toNat b.toNat with
     | false => rfl
     | true => exact absurd (Nat.eq_of_beq_eq_true h) h1
    have h3 : (a == b) = false := by simpa using e
    rw [h2]
    simp [h3]
theorem bytesLess_eq : ∀ (x y : List UInt8), bytesLess x y = Op.bytesLess x y
 | [], [] => rfl
 | _ :: _, [] => rfl
 | [], _ :: _ => rfl
 | a :: x, b :: y => by
  have := bytesLess_eq x y
  simp only [bytesLess, Op.bytesLess, this]
  have h1 : Nat.blt a.toNat b.toNat = decide (a < b) := by
   rw [Bool.eq_iff_iff]; simp [Nat.blt_eq, UInt8.lt_iff_toNat_lt]
  have h2 : Nat.beq a.toNat b.toNat = (a == b) := by
   rw [Bool.eq_iff_iff]; simp [Nat.beq_eq, UInt8.toNat_inj]
  rw [h1, h2]
theorem toList_data (b : ByteArray) : b.toList = b.data.toList := ByteArray.toList_eq b
theorem Pb {op : BinOp} {a b : ByteArray} {v : Value} (h : FY op a b = some v) : (Op.stringOp op a b).run P w = .ok v w := by
 unfold FY at h
 unfold Op.stringOp
 simp only [toList_data, Z7, bytesLess_eq] at h ⊢
 cases op <;> simp only [z2, reduceCtorEq] at h
 case add =>
  have hs : a.data.toList.length = a.size ∧ b.data.toList.length = b.size := ⟨rfl, rfl⟩
  rw [hs.1, hs.2] at h
  by_cases hb : a.size + b.size ≤ 1099511627776
  · rw [if_pos (Nat.ble_eq_true_of_le hb)] at h
    have hm : ¬ (((a.size + b.size : Nat) : Int) > IntKind.i64.max) := by simp [IntKind.max, IntKind.signed, IntKind.bits]; omega
    rw [if_neg hm]
    cases h
    simp only [Sem.run_pure, Result.ok.injEq, and_true, Value.string.injEq]
    apply ByteArray.ext
    simp [ByteArray.data_append]
  · rw [if_neg (by intro e; exact hb (Nat.le_of_ble_eq_true e))] at h; cases h
 all_goals subst h; rfl
theorem Pf {op : BinOp} {x y : Value} {v : Value} (t : TypeId) (h : zo op x y = some v) : (binOp op t x y).run P w = .ok v w := by
 unfold zo at h
 split at h
 · rename_i k a k' b
   by_cases hk : k = k'
   · subst hk
     cases op
     case shl => exact Wt (op := .shl) (yk := k) h
     case shr => exact Wt (op := .shr) (yk := k) h
     all_goals (simp only [if_true] at h; have := F3 (P := P) (w := w) h; simpa [binOp] using this)
   · cases op
     case shl => exact Wt (op := .shl) (yk := k') h
     case shr => exact Wt (op := .shr) (yk := k') h
     all_goals (simp [hk] at h)
 · have := Pb (P := P) (w := w) h
   cases op <;> simpa [binOp] using this
 · cases h
end
end Go.Dx
