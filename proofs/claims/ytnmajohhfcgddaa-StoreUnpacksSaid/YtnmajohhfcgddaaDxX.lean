/- The evaluator Dx, a third time: compiled to small closed functions, so that the kernel reckons it fast. Its equality with the first form is proved. -/
import Derived.Test.YtnmajohhfcgddaaDxIns
set_option linter.unusedVariables false
set_option linter.unusedSimpArgs false
set_option linter.unusedSectionVars false
namespace Go.Dx
open Go
noncomputable section

/-! ### Tries, by functions that are made once for each number -/
inductive S8 (α : Type) where
  | mk (f : V8 α → α)
inductive U8 (α : Type) where
  | mk (f : (α → α) → V8 α → V8 α)
def pick8 {α : Type} (i : Nat) : S8 α :=
  match i with
  | 0 => .mk (V8.rec fun a _ _ _ _ _ _ _ => a)
  | 1 => .mk (V8.rec fun _ a _ _ _ _ _ _ => a)
  | 2 => .mk (V8.rec fun _ _ a _ _ _ _ _ => a)
  | 3 => .mk (V8.rec fun _ _ _ a _ _ _ _ => a)
  | 4 => .mk (V8.rec fun _ _ _ _ a _ _ _ => a)
  | 5 => .mk (V8.rec fun _ _ _ _ _ a _ _ => a)
  | 6 => .mk (V8.rec fun _ _ _ _ _ _ a _ => a)
  | _ => .mk (V8.rec fun _ _ _ _ _ _ _ a => a)
def push8 {α : Type} (i : Nat) : U8 α :=
  match i with
  | 0 => .mk (fun g => V8.rec fun a b c d e f h k => .mk (g a) b c d e f h k)
  | 1 => .mk (fun g => V8.rec fun a b c d e f h k => .mk a (g b) c d e f h k)
  | 2 => .mk (fun g => V8.rec fun a b c d e f h k => .mk a b (g c) d e f h k)
  | 3 => .mk (fun g => V8.rec fun a b c d e f h k => .mk a b c (g d) e f h k)
  | 4 => .mk (fun g => V8.rec fun a b c d e f h k => .mk a b c d (g e) f h k)
  | 5 => .mk (fun g => V8.rec fun a b c d e f h k => .mk a b c d e (g f) h k)
  | 6 => .mk (fun g => V8.rec fun a b c d e f h k => .mk a b c d e f (g h) k)
  | _ => .mk (fun g => V8.rec fun a b c d e f h k => .mk a b c d e f h (g k))
theorem pick8_eq {α : Type} (i : Nat) : (pick8 i : S8 α) = .mk (V8.get i) := by
  unfold pick8
  split <;> (refine congrArg S8.mk (funext fun v => ?_); cases v; unfold V8.get; first | rfl | (split <;> first | rfl | contradiction | (rename_i hq _ _ _ _ _ _ _; cases hq; rfl)))
theorem push8_eq {α : Type} (i : Nat) : (push8 i : U8 α) = .mk (V8.upd i) := by
  unfold push8
  split <;> (refine congrArg U8.mk (funext fun g => funext fun v => ?_); cases v; unfold V8.upd; first | rfl | (split <;> first | rfl | contradiction | (rename_i hq _ _ _ _ _ _ _; cases hq; rfl)))

inductive Rdx (α : Type) where
  | mk (f : PT α → Option α)
inductive Wr (α : Type) where
  | mk (f : Option α → PT α → PT α)
def rdx {α : Type} (k : Nat) : Rdx α :=
  _root_.cond (Nat.blt k 64)
    (S8.rec (fun f => S8.rec (fun g => Rdx.mk (PT.rec fun lo _ _ _ => g (f lo))) (pick8 (Nat.mod k 8))) (pick8 (Nat.div k 8)))
    (_root_.cond (Nat.blt k 4160)
      (S8.rec (fun f => S8.rec (fun g => S8.rec (fun h => S8.rec (fun i => Rdx.mk (PT.rec fun _ mid _ _ => i (h (g (f mid))))) (pick8 (Nat.mod (Nat.sub k 64) 8)))
        (pick8 (Nat.mod (Nat.div (Nat.sub k 64) 8) 8))) (pick8 (Nat.mod (Nat.div (Nat.sub k 64) 64) 8))) (pick8 (Nat.div (Nat.sub k 64) 512)))
      (Rdx.mk fun t => t.get k))
def wrs {α : Type} (k : Nat) : Wr α :=
  _root_.cond (Nat.blt k 64)
    (U8.rec (fun f => U8.rec (fun g => Wr.mk (fun x => PT.rec fun lo mid far big => .mk (f (g fun _ => x) lo) mid far big)) (push8 (Nat.mod k 8))) (push8 (Nat.div k 8)))
    (_root_.cond (Nat.blt k 4160)
      (U8.rec (fun f => U8.rec (fun g => U8.rec (fun h => U8.rec (fun i => Wr.mk (fun x => PT.rec fun lo mid far big => .mk lo (f (g (h (i fun _ => x))) mid) far big)) (push8 (Nat.mod (Nat.sub k 64) 8)))
        (push8 (Nat.mod (Nat.div (Nat.sub k 64) 8) 8))) (push8 (Nat.mod (Nat.div (Nat.sub k 64) 64) 8))) (push8 (Nat.div (Nat.sub k 64) 512)))
      (Wr.mk fun x t => t.put k x))
theorem blt_true {a b : Nat} (h : a < b) : Nat.blt a b = true := (blt_iff a b).2 h
theorem blt_false {a b : Nat} (h : ¬ a < b) : Nat.blt a b = false := by
  cases hb : Nat.blt a b with
  | false => rfl
  | true => exact absurd ((blt_iff a b).1 hb) h
theorem rdx_eq {α : Type} (k : Nat) : (rdx k : Rdx α) = .mk fun t => t.get k := by
  unfold rdx
  by_cases h1 : k < 64
  · rw [blt_true h1]
    simp only [cond_true, pick8_eq]
    refine congrArg Rdx.mk (funext fun t => ?_)
    cases t
    simp only [PT.get, h1, if_true]
    rfl
  · rw [blt_false h1]
    by_cases h2 : k < 4160
    · rw [blt_true h2]
      simp only [cond_true, cond_false, pick8_eq]
      refine congrArg Rdx.mk (funext fun t => ?_)
      cases t
      simp only [PT.get, h1, h2, if_true, if_false]
      rfl
    · rw [blt_false h2]
      rfl
theorem wrs_eq {α : Type} (k : Nat) : (wrs k : Wr α) = .mk fun x t => t.put k x := by
  unfold wrs
  by_cases h1 : k < 64
  · rw [blt_true h1]
    simp only [cond_true, push8_eq]
    refine congrArg Wr.mk (funext fun x => funext fun t => ?_)
    cases t
    simp only [PT.put, h1, if_true]
    rfl
  · rw [blt_false h1]
    by_cases h2 : k < 4160
    · rw [blt_true h2]
      simp only [cond_true, cond_false, push8_eq]
      refine congrArg Wr.mk (funext fun x => funext fun t => ?_)
      cases t
      simp only [PT.put, h1, h2, if_true, if_false]
      rfl
    · rw [blt_false h2]
      rfl

/-! ### Views of values: what a value is, as a small type -/
inductive IV where
  | no
  | mk (k : IntKind) (n : Int)
inductive BV where
  | no
  | mk (b : Bool)
inductive PV where
  | no
  | mk (k off : Nat)
inductive AV where
  | no
  | mk (a : Option Addr)
inductive LV where
  | no
  | mk (a : Option Addr) (n c : Nat)
inductive FV where
  | no
  | mk (fn : Fn) (first captured : Array Value)
inductive TV where
  | no
  | mk (vs : List Value)
def asB : Value → BV := Value.rec (motive_1 := fun _ => BV) (motive_2 := fun _ => PUnit) (motive_3 := fun _ => PUnit) BV.mk (fun _ _ => .no) (fun _ _ => .no) (fun _ _ _ => .no) (fun _ => .no) (fun _ => .no) (fun _ _ _ => .no) (fun _ => .no) (fun _ => .no) (fun _ _ _ _ _ => .no) .no (fun _ _ _ => .no) .no (fun _ _ => .no) (fun _ _ => .no) (fun _ _ => ⟨⟩) ⟨⟩ (fun _ _ _ _ => ⟨⟩)
def asI : Value → IV := Value.rec (motive_1 := fun _ => IV) (motive_2 := fun _ => PUnit) (motive_3 := fun _ => PUnit) (fun _ => .no) IV.mk (fun _ _ => .no) (fun _ _ _ => .no) (fun _ => .no) (fun _ => .no) (fun _ _ _ => .no) (fun _ => .no) (fun _ => .no) (fun _ _ _ _ _ => .no) .no (fun _ _ _ => .no) .no (fun _ _ => .no) (fun _ _ => .no) (fun _ _ => ⟨⟩) ⟨⟩ (fun _ _ _ _ => ⟨⟩)
def asP : Value → PV := Value.rec (motive_1 := fun _ => PV) (motive_2 := fun _ => PUnit) (motive_3 := fun _ => PUnit) (fun _ => .no) (fun _ _ => .no) (fun _ _ => .no) (fun _ _ _ => .no) (fun _ => .no) (Option.rec .no (Addr.rec fun k off sp => Option.rec (PV.mk k off) (fun _ => .no) sp)) (fun _ _ _ => .no) (fun _ => .no) (fun _ => .no) (fun _ _ _ _ _ => .no) .no (fun _ _ _ => .no) .no (fun _ _ => .no) (fun _ _ => .no) (fun _ _ => ⟨⟩) ⟨⟩ (fun _ _ _ _ => ⟨⟩)
def asA : Value → AV := Value.rec (motive_1 := fun _ => AV) (motive_2 := fun _ => PUnit) (motive_3 := fun _ => PUnit) (fun _ => .no) (fun _ _ => .no) (fun _ _ => .no) (fun _ _ _ => .no) (fun _ => .no) AV.mk (fun _ _ _ => .no) (fun _ => .no) (fun _ => .no) (fun _ _ _ _ _ => .no) .no (fun _ _ _ => .no) .no (fun _ _ => .no) (fun _ _ => .no) (fun _ _ => ⟨⟩) ⟨⟩ (fun _ _ _ _ => ⟨⟩)
def asL : Value → LV := Value.rec (motive_1 := fun _ => LV) (motive_2 := fun _ => PUnit) (motive_3 := fun _ => PUnit) (fun _ => .no) (fun _ _ => .no) (fun _ _ => .no) (fun _ _ _ => .no) (fun _ => .no) (fun _ => .no) LV.mk (fun _ => .no) (fun _ => .no) (fun _ _ _ _ _ => .no) .no (fun _ _ _ => .no) .no (fun _ _ => .no) (fun _ _ => .no) (fun _ _ => ⟨⟩) ⟨⟩ (fun _ _ _ _ => ⟨⟩)
def asF : Value → FV := Value.rec (motive_1 := fun _ => FV) (motive_2 := fun _ => PUnit) (motive_3 := fun _ => PUnit) (fun _ => .no) (fun _ _ => .no) (fun _ _ => .no) (fun _ _ _ => .no) (fun _ => .no) (fun _ => .no) (fun _ _ _ => .no) (fun _ => .no) (fun _ => .no) (fun g a b _ _ => FV.mk g a b) .no (fun _ _ _ => .no) .no (fun _ _ => .no) (fun _ _ => .no) (fun _ _ => ⟨⟩) ⟨⟩ (fun _ _ _ _ => ⟨⟩)
def asT : Value → TV := Value.rec (motive_1 := fun _ => TV) (motive_2 := fun _ => PUnit) (motive_3 := fun _ => PUnit) (fun _ => .no) (fun _ _ => .no) (fun _ _ => .no) (fun _ _ _ => .no) (fun _ => .no) (fun _ => .no) (fun _ _ _ => .no) (fun _ => .no) (fun _ => .no) (fun _ _ _ _ _ => .no) .no (fun _ _ _ => .no) .no (fun _ _ => .no) (fun vs _ => TV.mk vs.toList) (fun _ _ => ⟨⟩) ⟨⟩ (fun _ _ _ _ => ⟨⟩)
theorem asB_eq (v : Value) : asB v = (match v with | .bool b => .mk b | _ => .no) := by cases v <;> rfl
theorem asI_eq (v : Value) : asI v = (match v with | .int k n => .mk k n | _ => .no) := by cases v <;> rfl
theorem asA_eq (v : Value) : asA v = (match v with | .pointer a => .mk a | _ => .no) := by cases v <;> rfl
theorem asL_eq (v : Value) : asL v = (match v with | .slice a n c => .mk a n c | _ => .no) := by cases v <;> rfl
theorem asF_eq (v : Value) : asF v = (match v with | .func g a b => .mk g a b | _ => .no) := by cases v <;> rfl
theorem asT_eq (v : Value) : asT v = (match v with | .tuple vs => .mk vs.toList | _ => .no) := by cases v <;> rfl
theorem asP_rec {β : Type} (z : β) (f : Nat → Nat → β) (v : Value) : PV.rec (motive := fun _ => β) z f (asP v) = (match v with | .pointer (some ⟨k, off, none⟩) => f k off | _ => z) := by
  cases v with
  | pointer a =>
    cases a with
    | none => rfl
    | some a =>
      obtain ⟨k, off, sp⟩ := a
      cases sp <;> rfl
  | _ => rfl
theorem asI_rec {β : Type} (z : β) (f : IntKind → Int → β) (v : Value) : IV.rec (motive := fun _ => β) z f (asI v) = (match v with | .int k n => f k n | _ => z) := by cases v <;> rfl
theorem asB_rec {β : Type} (z : β) (f : Bool → β) (v : Value) : BV.rec (motive := fun _ => β) z f (asB v) = (match v with | .bool b => f b | _ => z) := by cases v <;> rfl
theorem asL_rec {β : Type} (z : β) (f : Option Addr → Nat → Nat → β) (v : Value) : LV.rec (motive := fun _ => β) z f (asL v) = (match v with | .slice a b c => f a b c | _ => z) := by cases v <;> rfl
theorem asA_rec {β : Type} (z : β) (f : Option Addr → β) (v : Value) : AV.rec (motive := fun _ => β) z f (asA v) = (match v with | .pointer a => f a | _ => z) := by cases v <;> rfl
theorem asF_rec {β : Type} (z : β) (f : Fn → Array Value → Array Value → β) (v : Value) : FV.rec (motive := fun _ => β) z f (asF v) = (match v with | .func g a b => f g a b | _ => z) := by cases v <;> rfl
theorem asT_rec {β : Type} (z : β) (f : List Value → β) (v : Value) : TV.rec (motive := fun _ => β) z f (asT v) = (match v with | .tuple vs => f vs.toList | _ => z) := by cases v <;> rfl
theorem brec_if {α : Type} (c : Bool) (a b : α) : Bool.rec (motive := fun _ => α) b a c = if c = true then a else b := by cases c <;> rfl

/-! ### Numbers -/
def kcd : IntKind → Nat := IntKind.rec (motive := fun _ => Nat) 0 1 2 3 4 5 6 7
def sameK (a b : IntKind) : Bool := Nat.beq (kcd a) (kcd b)
theorem sameK_eq (a b : IntKind) : sameK a b = decide (a = b) := by cases a <;> cases b <;> rfl
def modN : IntKind → Nat := IntKind.rec (motive := fun _ => Nat) 256 65536 4294967296 18446744073709551616 256 65536 4294967296 18446744073709551616
def limN : IntKind → Nat := IntKind.rec (motive := fun _ => Nat) 128 32768 2147483648 9223372036854775808 256 65536 4294967296 18446744073709551616
theorem modN_eq (k : IntKind) : modN k = modulus k := by cases k <;> rfl
/-- a number that is not negative, wrapped -/
def kmod (k : IntKind) (m : Nat) : Int := Bool.rec (motive := fun _ => Int) (dwrap k (Int.ofNat m)) (Int.ofNat m) (Nat.ble (Nat.succ m) (limN k))
theorem kmod_eq (k : IntKind) (m : Nat) : kmod k m = dwrap k (.ofNat m) := by
  show Bool.rec (motive := fun _ => Int) (dwrap k (Int.ofNat m)) (Int.ofNat m) (Nat.blt m (limN k)) = _
  by_cases h : m < limN k
  · rw [blt_true h]
    show Int.ofNat m = _
    have hl : low k (.ofNat m) = m := by
      cases k <;> simp only [limN] at h <;> exact Nat.mod_eq_of_lt (by simp only [modulus]; omega)
    have hb : isSigned k = true → Nat.ble (halfOf k) m = false := by
      intro hs
      cases k <;> simp only [limN] at h <;> first | (cases hs; done) | exact (by rw [Bool.eq_false_iff]; intro hb; have := Nat.le_of_ble_eq_true hb; simp only [halfOf] at this; omega)
    unfold dwrap
    simp only [hl]
    cases hs : isSigned k with
    | false => rfl
    | true => rw [hb hs]; rfl
  · rw [blt_false h]
inductive Bf where
  | mk (f : Value → Value → Option Value)
/-- two numbers of one kind -/
def two (op : BinOp) (F : IntKind → Int → Int → Option Value) : Bf :=
  .mk fun x y => IV.rec (motive := fun _ => Option Value) (dbin op x y) (fun k a => IV.rec (motive := fun _ => Option Value) none (fun k' b => Bool.rec (motive := fun _ => Option Value) none (F k a b) (Nat.beq (kcd k) (kcd k'))) (asI y)) (asI x)
def fAdd (k : IntKind) (a b : Int) : Option Value := Int.rec (motive := fun _ => Option Value) (fun m => Int.rec (motive := fun _ => Option Value) (fun n => some (.int k (kmod k (Nat.add m n)))) (fun _ => dint .add k a b) b) (fun _ => dint .add k a b) a
def fSub (k : IntKind) (a b : Int) : Option Value := Int.rec (motive := fun _ => Option Value) (fun m => Int.rec (motive := fun _ => Option Value) (fun n => Bool.rec (motive := fun _ => Option Value) (dint .sub k a b) (some (.int k (kmod k (Nat.sub m n)))) (Nat.ble n m)) (fun _ => dint .sub k a b) b) (fun _ => dint .sub k a b) a
def fMul (k : IntKind) (a b : Int) : Option Value := Int.rec (motive := fun _ => Option Value) (fun m => Int.rec (motive := fun _ => Option Value) (fun n => some (.int k (kmod k (Nat.mul m n)))) (fun _ => dint .mul k a b) b) (fun _ => dint .mul k a b) a
def fAnd (k : IntKind) (a b : Int) : Option Value := Int.rec (motive := fun _ => Option Value) (fun m => Int.rec (motive := fun _ => Option Value) (fun n => some (.int k (kmod k (Nat.land (Nat.mod m (modN k)) (Nat.mod n (modN k)))))) (fun _ => dint .and k a b) b) (fun _ => dint .and k a b) a
def fOr (k : IntKind) (a b : Int) : Option Value := Int.rec (motive := fun _ => Option Value) (fun m => Int.rec (motive := fun _ => Option Value) (fun n => some (.int k (kmod k (Nat.lor (Nat.mod m (modN k)) (Nat.mod n (modN k)))))) (fun _ => dint .or k a b) b) (fun _ => dint .or k a b) a
def fXor (k : IntKind) (a b : Int) : Option Value := Int.rec (motive := fun _ => Option Value) (fun m => Int.rec (motive := fun _ => Option Value) (fun n => some (.int k (kmod k (Nat.xor (Nat.mod m (modN k)) (Nat.mod n (modN k)))))) (fun _ => dint .xor k a b) b) (fun _ => dint .xor k a b) a
def fEql (k : IntKind) (a b : Int) : Option Value := Int.rec (motive := fun _ => Option Value) (fun m => Int.rec (motive := fun _ => Option Value) (fun n => some (.bool (Nat.beq m n))) (fun _ => dint .eql k a b) b) (fun _ => dint .eql k a b) a
def fNeq (k : IntKind) (a b : Int) : Option Value := Int.rec (motive := fun _ => Option Value) (fun m => Int.rec (motive := fun _ => Option Value) (fun n => some (.bool (Bool.rec (motive := fun _ => Bool) true false (Nat.beq m n)))) (fun _ => dint .neq k a b) b) (fun _ => dint .neq k a b) a
def fLss (k : IntKind) (a b : Int) : Option Value := Int.rec (motive := fun _ => Option Value) (fun m => Int.rec (motive := fun _ => Option Value) (fun n => some (.bool (Nat.ble (Nat.succ m) n))) (fun _ => dint .lss k a b) b) (fun _ => dint .lss k a b) a
def fLeq (k : IntKind) (a b : Int) : Option Value := Int.rec (motive := fun _ => Option Value) (fun m => Int.rec (motive := fun _ => Option Value) (fun n => some (.bool (Nat.ble m n))) (fun _ => dint .leq k a b) b) (fun _ => dint .leq k a b) a
def fGtr (k : IntKind) (a b : Int) : Option Value := Int.rec (motive := fun _ => Option Value) (fun m => Int.rec (motive := fun _ => Option Value) (fun n => some (.bool (Nat.ble (Nat.succ n) m))) (fun _ => dint .gtr k a b) b) (fun _ => dint .gtr k a b) a
def fGeq (k : IntKind) (a b : Int) : Option Value := Int.rec (motive := fun _ => Option Value) (fun m => Int.rec (motive := fun _ => Option Value) (fun n => some (.bool (Nat.ble n m))) (fun _ => dint .geq k a b) b) (fun _ => dint .geq k a b) a
def bitsN : IntKind → Nat := IntKind.rec (motive := fun _ => Nat) 8 16 32 64 8 16 32 64
theorem bitsN_eq (k : IntKind) : bitsN k = bitsOf k := by cases k <;> rfl
/-- shifts: the kinds may differ -/
def minB (k : IntKind) (n : Nat) : Nat := Bool.rec (motive := fun _ => Nat) n (bitsN k) (Nat.ble (bitsN k) n)
def fShl (k : IntKind) (a b : Int) : Option Value := Int.rec (motive := fun _ => Option Value) (fun m => Int.rec (motive := fun _ => Option Value) (fun n => some (.int k (kmod k (Nat.mul m (Nat.pow 2 (minB k n)))))) (fun _ => dshift .shl k a b) b) (fun _ => dshift .shl k a b) a
def fShr (k : IntKind) (a b : Int) : Option Value := Int.rec (motive := fun _ => Option Value) (fun m => Int.rec (motive := fun _ => Option Value) (fun n => some (.int k (Int.ofNat (Nat.div m (Nat.pow 2 (minB k n)))))) (fun _ => dshift .shr k a b) b) (fun _ => dshift .shr k a b) a
def shf (op : BinOp) (F : IntKind → Int → Int → Option Value) : Bf :=
  .mk fun x y => IV.rec (motive := fun _ => Option Value) (dbin op x y) (fun k a => IV.rec (motive := fun _ => Option Value) (dbin op x y) (fun _ b => F k a b) (asI y)) (asI x)
def pickB (op : BinOp) : Bf :=
  match op with
  | .add => two .add fAdd
  | .sub => two .sub fSub
  | .mul => two .mul fMul
  | .and => two .and fAnd
  | .or => two .or fOr
  | .xor => two .xor fXor
  | .eql => two .eql fEql
  | .neq => two .neq fNeq
  | .lss => two .lss fLss
  | .leq => two .leq fLeq
  | .gtr => two .gtr fGtr
  | .geq => two .geq fGeq
  | .shl => shf .shl fShl
  | .shr => shf .shr fShr
  | op => .mk (dbin op)
theorem natI2 (k : IntKind) (a b : Int) (op : BinOp) (g : Nat → Nat → Option Value) (h : ∀ m n, g m n = dint op k (.ofNat m) (.ofNat n)) :
    Int.rec (motive := fun _ => Option Value) (fun m => Int.rec (motive := fun _ => Option Value) (fun n => g m n) (fun _ => dint op k a b) b) (fun _ => dint op k a b) a = dint op k a b := by
  cases a with
  | ofNat m => cases b with
    | ofNat n => exact h m n
    | negSucc n => rfl
  | negSucc m => rfl
theorem natI3 (k : IntKind) (a b : Int) (op : BinOp) (g : Nat → Nat → Option Value) (h : ∀ m n, g m n = dshift op k (.ofNat m) (.ofNat n)) :
    Int.rec (motive := fun _ => Option Value) (fun m => Int.rec (motive := fun _ => Option Value) (fun n => g m n) (fun _ => dshift op k a b) b) (fun _ => dshift op k a b) a = dshift op k a b := by
  cases a with
  | ofNat m => cases b with
    | ofNat n => exact h m n
    | negSucc n => rfl
  | negSucc m => rfl
theorem sameK_eq' (a b : IntKind) : Nat.beq (kcd a) (kcd b) = decide (a = b) := sameK_eq a b
theorem two_eq {op : BinOp} {F : IntKind → Int → Int → Option Value} (h1 : op ≠ .shl) (h2 : op ≠ .shr) (h : ∀ k a b, F k a b = dint op k a b) : two op F = .mk (dbin op) := by
  refine congrArg Bf.mk (funext fun x => funext fun y => ?_)
  rw [asI_rec]
  cases x with
  | int k a =>
    simp only [asI_rec]
    cases y with
    | int k' b =>
      simp only [h, sameK_eq', brec_if]
      have : dbin op (.int k a) (.int k' b) = if k = k' then dint op k a b else none := by
        cases op <;> first | rfl | exact absurd rfl h1 | exact absurd rfl h2
      rw [this]
      by_cases e : k = k' <;> simp [e]
    | _ => rfl
  | _ => rfl
theorem shf_eq {op : BinOp} {F : IntKind → Int → Int → Option Value} (h : ∀ k k' a b, F k a b = dbin op (.int k a) (.int k' b)) : shf op F = .mk (dbin op) := by
  refine congrArg Bf.mk (funext fun x => funext fun y => ?_)
  rw [asI_rec]
  cases x with
  | int k a =>
    simp only [asI_rec]
    cases y with
    | int k' b => exact h k k' a b
    | _ => rfl
  | _ => rfl
theorem minB_eq (k : IntKind) (n : Nat) : minB k n = if Nat.ble (bitsOf k) n then bitsOf k else n := by
  unfold minB
  rw [bitsN_eq, brec_if]
theorem ofNat_nlt (n : Nat) : ¬ (Int.ofNat n < 0) := by simp only [Int.ofNat_eq_natCast]; omega
theorem fAdd_eq (k : IntKind) (a b : Int) : fAdd k a b = dint .add k a b := natI2 k a b .add _ fun m n => by rw [kmod_eq]; rfl
theorem fSub_eq (k : IntKind) (a b : Int) : fSub k a b = dint .sub k a b := by
  unfold fSub
  cases a with
  | ofNat m => cases b with
    | ofNat n =>
      show Bool.rec (motive := fun _ => Option Value) (dint .sub k (.ofNat m) (.ofNat n)) (some (.int k (kmod k (Nat.sub m n)))) (Nat.ble n m) = _
      cases h : Nat.ble n m with
      | false => rfl
      | true =>
        have hle := Nat.le_of_ble_eq_true h
        have e : (Int.ofNat m - Int.ofNat n) = Int.ofNat (m - n) := by simp only [Int.ofNat_eq_natCast]; omega
        show some (Value.int k (kmod k (m - n))) = some (.int k (dwrap k (Int.ofNat m - Int.ofNat n)))
        rw [kmod_eq, e]
    | negSucc n => rfl
  | negSucc m => rfl
theorem fMul_eq (k : IntKind) (a b : Int) : fMul k a b = dint .mul k a b := natI2 k a b .mul _ fun m n => by rw [kmod_eq]; rfl
theorem low_nat (k : IntKind) (m : Nat) : low k (.ofNat m) = Nat.mod m (modN k) := by rw [modN_eq]; rfl
theorem fAnd_eq (k : IntKind) (a b : Int) : fAnd k a b = dint .and k a b := natI2 k a b .and _ fun m n => by rw [kmod_eq, ← low_nat, ← low_nat]; rfl
theorem fOr_eq (k : IntKind) (a b : Int) : fOr k a b = dint .or k a b := natI2 k a b .or _ fun m n => by rw [kmod_eq, ← low_nat, ← low_nat]; rfl
theorem fXor_eq (k : IntKind) (a b : Int) : fXor k a b = dint .xor k a b := natI2 k a b .xor _ fun m n => by rw [kmod_eq, ← low_nat, ← low_nat]; rfl
theorem beq_dec (m n : Nat) : Nat.beq m n = decide (Int.ofNat m = Int.ofNat n) := by
  rw [Bool.eq_iff_iff, decide_eq_true_iff]
  constructor
  · intro h; rw [Nat.eq_of_beq_eq_true h]
  · intro h; cases h; exact Nat.beq_refl _
theorem fEql_eq (k : IntKind) (a b : Int) : fEql k a b = dint .eql k a b := natI2 k a b .eql _ fun m n => by rw [beq_dec]; rfl
theorem fNeq_eq (k : IntKind) (a b : Int) : fNeq k a b = dint .neq k a b := natI2 k a b .neq _ fun m n => by
  rw [beq_dec]
  show some (Value.bool (Bool.rec (motive := fun _ => Bool) true false (decide (Int.ofNat m = Int.ofNat n)))) = some (.bool (!decide (Int.ofNat m = Int.ofNat n)))
  cases decide (Int.ofNat m = Int.ofNat n) <;> rfl
theorem blt_dec (m n : Nat) : Nat.blt m n = decide (Int.ofNat m < Int.ofNat n) := by
  rw [Bool.eq_iff_iff, decide_eq_true_iff, blt_iff]; simp only [Int.ofNat_eq_natCast]; omega
theorem ble_dec (m n : Nat) : Nat.ble m n = decide (Int.ofNat m ≤ Int.ofNat n) := by
  rw [Bool.eq_iff_iff, decide_eq_true_iff, Nat.ble_eq]; simp only [Int.ofNat_eq_natCast]; omega
theorem fLss_eq (k : IntKind) (a b : Int) : fLss k a b = dint .lss k a b := natI2 k a b .lss _ fun m n => by
  show some (Value.bool (Nat.blt m n)) = _
  rw [blt_dec]; rfl
theorem fLeq_eq (k : IntKind) (a b : Int) : fLeq k a b = dint .leq k a b := natI2 k a b .leq _ fun m n => by rw [ble_dec]; rfl
theorem fGtr_eq (k : IntKind) (a b : Int) : fGtr k a b = dint .gtr k a b := natI2 k a b .gtr _ fun m n => by
  show some (Value.bool (Nat.blt n m)) = _
  rw [blt_dec]; rfl
theorem fGeq_eq (k : IntKind) (a b : Int) : fGeq k a b = dint .geq k a b := natI2 k a b .geq _ fun m n => by rw [ble_dec]; rfl
theorem fShl_eq (k k' : IntKind) (a b : Int) : fShl k a b = dbin .shl (.int k a) (.int k' b) := natI3 k a b .shl _ fun m n => by
  rw [kmod_eq, minB_eq]
  simp only [dshift, ofNat_nlt, if_false]
  rfl
theorem fdiv_nat (m p : Nat) : Int.fdiv (.ofNat m) (.ofNat p) = .ofNat (m / p) := by
  cases m with
  | zero => simp [Int.fdiv]
  | succ m => rfl
theorem fShr_eq (k k' : IntKind) (a b : Int) : fShr k a b = dbin .shr (.int k a) (.int k' b) := natI3 k a b .shr _ fun m n => by
  rw [minB_eq]
  simp only [dshift, ofNat_nlt, if_false]
  exact congrArg (fun z => some (Value.int k z)) (fdiv_nat _ _).symm
theorem pickB_eq (op : BinOp) : pickB op = .mk (dbin op) := by
  cases op <;> first
    | rfl
    | exact two_eq (by simp) (by simp) fAdd_eq
    | exact two_eq (by simp) (by simp) fSub_eq
    | exact two_eq (by simp) (by simp) fMul_eq
    | exact two_eq (by simp) (by simp) fAnd_eq
    | exact two_eq (by simp) (by simp) fOr_eq
    | exact two_eq (by simp) (by simp) fXor_eq
    | exact two_eq (by simp) (by simp) fEql_eq
    | exact two_eq (by simp) (by simp) fNeq_eq
    | exact two_eq (by simp) (by simp) fLss_eq
    | exact two_eq (by simp) (by simp) fLeq_eq
    | exact two_eq (by simp) (by simp) fGtr_eq
    | exact two_eq (by simp) (by simp) fGeq_eq
    | exact shf_eq fShl_eq
    | exact shf_eq fShr_eq

/-! ### Operands -/
inductive Rd where
  | mk (f : PT Value → Value)
def orU (o : Option Value) : Value := Option.rec undefD (fun v => v) o
def rd (x : Operand) : Rd := Operand.rec (motive := fun _ => Rd) (fun i => Rdx.rec (fun f => Rd.mk fun t => orU (f t)) (rdx i)) (fun v => Rd.mk fun _ => v) (fun _ => Rd.mk fun _ => undefD) (fun f => Rd.mk fun _ => .func (.func f) #[] #[]) x
theorem rd_eq (x : Operand) : rd x = .mk fun t => ev t x := by
  cases x with
  | tmp i =>
    show Rdx.rec (motive := fun _ => Rd) (fun f => Rd.mk fun t => orU (f t)) (rdx i) = _
    rw [rdx_eq]
    refine congrArg Rd.mk (funext fun t => ?_)
    show orU (t.get i) = (t.get i).getD undefD
    cases t.get i <;> rfl
  | const v => rfl
  | global g => rfl
  | func f => rfl
inductive La where
  | mk (f : PT Value → List Value)
def la (xs : List Operand) : La := List.rec (motive := fun _ => La) (La.mk fun _ => []) (fun x _ ih => Rd.rec (fun f => La.rec (fun g => La.mk fun t => f t :: g t) ih) (rd x)) xs
theorem la_eq : ∀ xs : List Operand, la xs = .mk fun t => xs.map (ev t)
  | [] => rfl
  | x :: xs => by
    show Rd.rec (motive := fun _ => La) (fun f => La.rec (motive := fun _ => La) (fun g => La.mk fun t => f t :: g t) (la xs)) (rd x) = _
    rw [rd_eq, la_eq xs]
    rfl

/-! ### Memory -/
def forceN {β : Type} (f : Nat → β) (n : Nat) : β := Nat.rec (motive := fun _ => β) (f 0) (fun m _ => f (Nat.succ m)) n
theorem forceN_eq {β : Type} (f : Nat → β) (n : Nat) : forceN f n = f n := by cases n <;> rfl
def hp (s : DS) (k : Nat) : Option DObj := DS.rec (motive := fun _ => Option DObj) (fun h n v w => Bool.rec (motive := fun _ => Option DObj) none (Bool.rec (motive := fun _ => Option DObj) none (Rdx.rec (motive := fun _ => Option DObj) (fun f => f h) (rdx k)) (v k)) (Nat.ble (Nat.succ k) n)) s
theorem hp_eq (s : DS) (k : Nat) : hp s k = s.get k := by
  unfold hp DS.get
  rw [rdx_eq]
  show Bool.rec (motive := fun _ => Option DObj) none (Bool.rec (motive := fun _ => Option DObj) none (s.heap.get k) (s.vis k)) (Nat.blt k s.next) = _
  cases Nat.blt k s.next <;> cases s.vis k <;> rfl
inductive Nt where
  | mk (f : List Value → Option Value)
def nth (i : Nat) : Nt := Nat.rec (motive := fun _ => Nt) (Nt.mk (List.rec none fun x _ _ => some x)) (fun _ ih => Nt.rec (fun f => Nt.mk (List.rec none fun _ l _ => f l)) ih) i
theorem nth_eq : ∀ i : Nat, nth i = .mk fun l => getN l i
  | 0 => congrArg Nt.mk (funext fun l => by cases l <;> rfl)
  | i + 1 => by
    show Nt.rec (motive := fun _ => Nt) (fun f => Nt.mk (List.rec none fun _ l _ => f l)) (nth i) = _
    rw [nth_eq i]
    exact congrArg Nt.mk (funext fun l => by cases l <;> rfl)
inductive Ns where
  | mk (f : Value → List Value → List Value)
def nset (i : Nat) : Ns := Nat.rec (motive := fun _ => Ns) (Ns.mk fun v => List.rec [] fun _ l _ => v :: l) (fun _ ih => Ns.rec (fun f => Ns.mk fun v => List.rec [] fun x l _ => x :: f v l) ih) i
theorem nset_eq : ∀ i : Nat, nset i = .mk fun v l => setN l i v
  | 0 => congrArg Ns.mk (funext fun v => funext fun l => by cases l <;> rfl)
  | i + 1 => by
    show Ns.rec (motive := fun _ => Ns) (fun f => Ns.mk fun v => List.rec [] fun x l _ => x :: f v l) (nset i) = _
    rw [nset_eq i]
    exact congrArg Ns.mk (funext fun v => funext fun l => by cases l <;> rfl)
def xget (c : Cells) (i : Nat) : Option Value :=
  Cells.rec (motive := fun _ => Option Value) (fun l => Nt.rec (motive := fun _ => Option Value) (fun f => f l) (nth i)) (fun n z t => Bool.rec (motive := fun _ => Option Value) none (some (Option.rec (motive := fun _ => Value) z (fun v => v) (Rdx.rec (motive := fun _ => Option Value) (fun f => f t) (rdx i)))) (Nat.ble (Nat.succ i) n)) (fun l => Nt.rec (motive := fun _ => Option Value) (fun f => f l) (nth i)) c
theorem xget_eq (c : Cells) (i : Nat) : xget c i = c.get i := by
  cases c with
  | list l => show Nt.rec (motive := fun _ => Option Value) (fun f => f l) (nth i) = _; rw [nth_eq]; rfl
  | str l => show Nt.rec (motive := fun _ => Option Value) (fun f => f l) (nth i) = _; rw [nth_eq]; rfl
  | tree n z t =>
    show Bool.rec (motive := fun _ => Option Value) none (some (Option.rec (motive := fun _ => Value) z (fun v => v) (Rdx.rec (motive := fun _ => Option Value) (fun f => f t) (rdx i)))) (Nat.blt i n) = if i < n then some ((t.get i).getD z) else none
    rw [rdx_eq]
    by_cases h : i < n
    · rw [blt_true h, if_pos h]
      show some (Option.rec (motive := fun _ => Value) z (fun v => v) (t.get i)) = _
      cases t.get i <;> rfl
    · rw [blt_false h, if_neg h]
def xset (c : Cells) (i : Nat) (v : Value) : Cells :=
  Cells.rec (motive := fun _ => Cells) (fun l => .list (Ns.rec (motive := fun _ => List Value) (fun f => f v l) (nset i))) (fun n z t => .tree n z (Bool.rec (motive := fun _ => PT Value) t (Wr.rec (motive := fun _ => PT Value) (fun w => w (some v) t) (wrs i)) (Nat.ble (Nat.succ i) n))) (fun l => .str (Ns.rec (motive := fun _ => List Value) (fun f => f v l) (nset i))) c
theorem xset_eq (c : Cells) (i : Nat) (v : Value) : xset c i v = c.set i v := by
  cases c with
  | list l => show Cells.list (Ns.rec (motive := fun _ => List Value) (fun f => f v l) (nset i)) = _; rw [nset_eq]; rfl
  | str l => show Cells.str (Ns.rec (motive := fun _ => List Value) (fun f => f v l) (nset i)) = _; rw [nset_eq]; rfl
  | tree n z t =>
    show Cells.tree n z (Bool.rec (motive := fun _ => PT Value) t (Wr.rec (motive := fun _ => PT Value) (fun w => w (some v) t) (wrs i)) (Nat.blt i n)) = .tree n z (if i < n then t.put i (some v) else t)
    rw [wrs_eq]
    by_cases h : i < n
    · rw [blt_true h, if_pos h]
    · rw [blt_false h, if_neg h]
def xnew (s : DS) (o : DObj) : DS := DS.rec (motive := fun _ => DS) (fun h n v w => forceN (fun n => DS.mk (Wr.rec (motive := fun _ => PT DObj) (fun f => f (some o) h) (wrs n)) (Nat.succ n) v w) n) s
theorem xnew_eq (s : DS) (o : DObj) : xnew s o = s.new o := by
  unfold xnew
  cases s
  simp only [forceN_eq, wrs_eq]
  rfl

/-! ### Operations -/
inductive XOp where
  | tot (f : PT Value → Value)
  | val (f : PT Value → DS → Option Value)
  | eff (f : PT Value → DS → Option DS)
  | neu (f : PT Value → DObj)
  | act (f : CallFn → PT Value → DS → Option (Value × DS))
def XOp.go (o : XOp) (call : CallFn) (t : PT Value) (s : DS) : Option (Value × DS) :=
  XOp.rec (motive := fun _ => Option (Value × DS)) (fun f => some (f t, s)) (fun f => Option.rec none (fun v => some (v, s)) (f t s)) (fun f => Option.rec none (fun s' => some (undefD, s')) (f t s))
    (fun f => some (.pointer (some ⟨s.next, 0, none⟩), xnew s (f t))) (fun f => f call t s) o
/-- a number that is an index -/
def asN (v : Value) : Option Nat := IV.rec (motive := fun _ => Option Nat) none (fun _ a => Int.rec (motive := fun _ => Option Nat) (fun n => some n) (fun _ => none) a) (asI v)
theorem asN_eq (v : Value) : asN v = asIdx v := by
  unfold asN
  rw [asI_rec]
  cases v with
  | int k a => cases a <;> rfl
  | _ => rfl
def lt1 (x : Operand) (F : (PT Value → Value) → XOp) : XOp := Rd.rec F (rd x)
theorem lt1_eq (x : Operand) (F : (PT Value → Value) → XOp) : lt1 x F = F fun t => ev t x := by unfold lt1; rw [rd_eq]
def cells1 {β : Type} (z : β) (f : Cells → Bool → β) (o : Option DObj) : β := Option.rec z (DObj.rec f (fun _ _ => z) (fun _ _ _ _ => z) (fun _ _ _ _ _ _ => z) z) o
theorem cells1_eq {β : Type} (z : β) (f : Cells → Bool → β) (o : Option DObj) : cells1 z f o = (match o with | some (.cells c ro) => f c ro | _ => z) := by
  cases o with
  | none => rfl
  | some o => cases o <;> rfl
def xld (v : Value) (s : DS) : Option Value := PV.rec (motive := fun _ => Option Value) none (fun k off => cells1 none (fun c _ => forceN (fun off => xget c off) off) (hp s k)) (asP v)
theorem xld_eq (ρ : Operand → Value) (s : DS) (a : Operand) : xld (ρ a) s = dread ρ s (.ld none a) := by
  simp only [xld, asP_rec, forceN_eq, cells1_eq, hp_eq, xget_eq, dread]
  generalize ρ a = A
  cases A with
  | pointer p =>
    cases p with
    | none => rfl
    | some ad =>
      obtain ⟨k, off, sp⟩ := ad
      cases sp with
      | some z => rfl
      | none =>
        dsimp only
        cases s.get k with
        | none => rfl
        | some ob => cases ob <;> rfl
  | _ => rfl
def oneX : Value → Bool :=
  Value.rec (motive_1 := fun _ => Bool) (motive_2 := fun _ => PUnit) (motive_3 := fun _ => PUnit) (fun _ => true) (fun _ _ => true) (fun _ _ => true) (fun _ _ _ => true) (fun _ => true) (fun _ => true) (fun _ _ _ => true) (fun _ => true) (fun _ => true)
    (fun _ _ _ _ _ => true) true (fun _ _ _ => true) true (fun _ _ => false) (fun _ _ => false) (fun _ _ => ⟨⟩) ⟨⟩ (fun _ _ _ _ => ⟨⟩)
def s_st (size : Nat) (a v : Value) (s : DS) : Option DS :=
  match a with
  | .pointer (some ⟨k, off, none⟩) =>
    let cs := v.cells.toList
    if Nat.beq cs.length size && allOne cs then s.write k off cs else none
  | _ => none
/-- an object that may be written is written -/
def xput (s : DS) (k : Nat) (o : DObj) : Option DS := DS.rec (motive := fun _ => Option DS) (fun h n vis wr => Bool.rec (motive := fun _ => Option DS) none (some (DS.mk (Wr.rec (motive := fun _ => PT DObj) (fun f => f (some o) h) (wrs k)) n vis wr)) (wr k)) s
theorem xput_eq (s : DS) (k : Nat) (o : DObj) : xput s k o = s.set k o := by
  unfold xput DS.set
  rw [wrs_eq]
  show Bool.rec (motive := fun _ => Option DS) none (some (DS.mk (s.heap.put k (some o)) s.next s.vis s.wr)) (s.wr k) = _
  cases s.wr k <;> rfl
def xst1 (a v : Value) (s : DS) : Option DS :=
  Bool.rec (motive := fun _ => Option DS) (s_st 1 a v s)
    (PV.rec (motive := fun _ => Option DS) none (fun k off => cells1 none (fun c ro => Bool.rec (motive := fun _ => Option DS) (forceN (fun off => Option.rec (motive := fun _ => Option DS) none (fun _ => xput s k (.cells (xset c off v) false)) (xget c off)) off) none ro) (hp s k)) (asP a)) (oneX v)
end
end Go.Dx
