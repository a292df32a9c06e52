/- A part. -/
import Derived.Test.YthmgnfeljhdioaaGreatDxIns
set_option linter.unusedVariables false
set_option linter.unusedSimpArgs false
set_option linter.unusedSectionVars false
namespace Go.Dx
open Go
noncomputable section
inductive S8 (α : Type) where
 | mk (f : V8 α → α)
inductive U8 (α : Type) where
 | mk (f : (α → α) → V8 α → V8 α)
def Qx {α : Type} (i : Nat) : S8 α :=
 match i with
 | 0 => .mk (V8.rec fun a _ _ _ _ _ _ _ => a)
 | 1 => .mk (V8.rec fun _ a _ _ _ _ _ _ => a)
 | 2 => .mk (V8.rec fun _ _ a _ _ _ _ _ => a)
 | 3 => .mk (V8.rec fun _ _ _ a _ _ _ _ => a)
 | 4 => .mk (V8.rec fun _ _ _ _ a _ _ _ => a)
 | 5 => .mk (V8.rec fun _ _ _ _ _ a _ _ => a)
 | 6 => .mk (V8.rec fun _ _ _ _ _ _ a _ => a)
 | _ => .mk (V8.rec fun _ _ _ _ _ _ _ a => a)
def Qw {α : Type} (i : Nat) : U8 α :=
 match i with
 | 0 => .mk (fun g => V8.rec fun a b c d e f h k => .mk (g a) b c d e f h k)
 | 1 => .mk (fun g => V8.rec fun a b c d e f h k => .mk a (g b) c d e f h k)
 | 2 => .mk (fun g => V8.rec fun a b c d e f h k => .mk a b (g c) d e f h k)
 | 3 => .mk (fun g => V8.rec fun a b c d e f h k => .mk a b c (g d) e f h k)
 | 4 => .mk (fun g => V8.rec fun a b c d e f h k => .mk a b c d (g e) f h k)
 | 5 => .mk (fun g => V8.rec fun a b c d e f h k => .mk a b c d e (g f) h k)
 | 6 => .mk (fun g => V8.rec fun a b c d e f h k => .mk a b c d e f (g h) k)
 | _ => .mk (fun g => V8.rec fun a b c d e f h k => .mk a b c d e f h (g k))
theorem VO {α : Type} (i : Nat) : (Qx i : S8 α) = .mk (V8.get i) := by
 unfold Qx
 split <;> (refine congrArg S8.mk (funext fun v => ?_); cases v; unfold V8.get; first | rfl | (split <;> first | rfl | contradiction | (rename_i hq _ _ _ _ _ _ _; cases hq; rfl)))
theorem VN {α : Type} (i : Nat) : (Qw i : U8 α) = .mk (V8.upd i) := by
 unfold Qw
 split <;> (refine congrArg U8.mk (funext fun g => funext fun v => ?_); cases v; unfold V8.upd; first | rfl | (split <;> first | rfl | contradiction | (rename_i hq _ _ _ _ _ _ _; cases hq; rfl)))
inductive Rdx (α : Type) where
 | mk (f : PT α → Option α)
inductive Wr (α : Type) where
 | mk (f : Option α → PT α → PT α)
def rdx {α : Type} (k : Nat) : Rdx α :=
 _root_.cond (Nat.blt k 64)
  (S8.rec (fun f => S8.rec (fun g => Rdx.mk (PT.rec fun lo _ _ _ => g (f lo))) (Qx (Nat.mod k 8))) (Qx (Nat.div k 8)))
  (_root_.cond (Nat.blt k 4160)
   (S8.rec (fun f => S8.rec (fun g => S8.rec (fun h => S8.rec (fun i => Rdx.mk (PT.rec fun _ mid _ _ => i (h (g (f mid))))) (Qx (Nat.mod (Nat.sub k 64) 8)))
    (Qx (Nat.mod (Nat.div (Nat.sub k 64) 8) 8))) (Qx (Nat.mod (Nat.div (Nat.sub k 64) 64) 8))) (Qx (Nat.div (Nat.sub k 64) 512)))
   (Rdx.mk fun t => t.get k))
def wrs {α : Type} (k : Nat) : Wr α :=
 _root_.cond (Nat.blt k 64)
  (U8.rec (fun f => U8.rec (fun g => Wr.mk (fun x => PT.rec fun lo mid far big => .mk (f (g fun _ => x) lo) mid far big)) (Qw (Nat.mod k 8))) (Qw (Nat.div k 8)))
  (_root_.cond (Nat.blt k 4160)
   (U8.rec (fun f => U8.rec (fun g => U8.rec (fun h => U8.rec (fun i => Wr.mk (fun x => PT.rec fun lo mid far big => .mk lo (f (g (h (i fun _ => x))) mid) far big)) (Qw (Nat.mod (Nat.sub k 64) 8)))
    (Qw (Nat.mod (Nat.div (Nat.sub k 64) 8) 8))) (Qw (Nat.mod (Nat.div (Nat.sub k 64) 64) 8))) (Qw (Nat.div (Nat.sub k 64) 512)))
   (Wr.mk fun x t => t.put k x))
theorem Zh {a b : Nat} (h : a < b) : Nat.blt a b = true := (zL a b).2 h
theorem ZS {a b : Nat} (h : ¬ a < b) : Nat.blt a b = false := by
 cases hb : Nat.blt a b with
 | false => rfl
 | true => exact absurd ((zL a b).1 hb) h
theorem Js {α : Type} (k : Nat) : (rdx k : Rdx α) = .mk fun t => t.get k := by
 unfold rdx
 by_cases h1 : k < 64
 · rw [Zh h1]
   simp only [cond_true, VO]
   refine congrArg Rdx.mk (funext fun t => ?_)
   cases t
   simp only [PT.get, h1, if_true]
   rfl
 · rw [ZS h1]
   by_cases h2 : k < 4160
   · rw [Zh h2]
     simp only [cond_true, cond_false, VO]
     refine congrArg Rdx.mk (funext fun t => ?_)
     cases t
     simp only [PT.get, h1, h2, if_true, if_false]
     rfl
   · rw [ZS h2]
     rfl
theorem Qe {α : Type} (k : Nat) : (wrs k : Wr α) = .mk fun x t => t.put k x := by
 unfold wrs
 by_cases h1 : k < 64
 · rw [Zh h1]
   simp only [cond_true, VN]
   refine congrArg Wr.mk (funext fun x => funext fun t => ?_)
   cases t
   simp only [PT.put, h1, if_true]
   rfl
 · rw [ZS h1]
   by_cases h2 : k < 4160
   · rw [Zh h2]
     simp only [cond_true, cond_false, VN]
     refine congrArg Wr.mk (funext fun x => funext fun t => ?_)
     cases t
     simp only [PT.put, h1, h2, if_true, if_false]
     rfl
   · rw [ZS h2]
     rfl
inductive IV where
 | no
 | mk (k : IntKind) (n : Int)
inductive BV where
 | no
 | mk (b : Bool)
inductive PV where
 | no
 | mk (k off : Nat)
inductive AV where
 | no
 | mk (a : Option Addr)
inductive LV where
 | no
 | mk (a : Option Addr) (n c : Nat)
inductive FV where
 | no
 | mk (fn : Fn) (first captured : Array Value)
inductive TV where
 | no
 | mk (vs : List Value)
def asB : Value → BV := Value.rec (motive_1 := fun _ => BV) (motive_2 := fun _ => PUnit) (motive_3 := fun _ => PUnit) BV.mk (fun _ _ => .no) (fun _ _ => .no) (fun _ _ _ => .no) (fun _ => .no) (fun _ => .no) (fun _ _ _ => .no) (fun _ => .no) (fun _ => .no) (fun _ _ _ _ _ => .no) .no (fun _ _ _ => .no) .no (fun _ _ => .no) (fun _ _ => .no) (fun _ _ => ⟨⟩) ⟨⟩ (fun _ _ _ _ => ⟨⟩)
def asI : Value → IV := Value.rec (motive_1 := fun _ => IV) (motive_2 := fun _ => PUnit) (motive_3 := fun _ => PUnit) (fun _ => .no) IV.mk (fun _ _ => .no) (fun _ _ _ => .no) (fun _ => .no) (fun _ => .no) (fun _ _ _ => .no) (fun _ => .no) (fun _ => .no) (fun _ _ _ _ _ => .no) .no (fun _ _ _ => .no) .no (fun _ _ => .no) (fun _ _ => .no) (fun _ _ => ⟨⟩) ⟨⟩ (fun _ _ _ _ => ⟨⟩)
def asP : Value → PV := Value.rec (motive_1 := fun _ => PV) (motive_2 := fun _ => PUnit) (motive_3 := fun _ => PUnit) (fun _ => .no) (fun _ _ => .no) (fun _ _ => .no) (fun _ _ _ => .no) (fun _ => .no) (Option.rec .no (Addr.rec fun k off sp => Option.rec (PV.mk k off) (fun _ => .no) sp)) (fun _ _ _ => .no) (fun _ => .no) (fun _ => .no) (fun _ _ _ _ _ => .no) .no (fun _ _ _ => .no) .no (fun _ _ => .no) (fun _ _ => .no) (fun _ _ => ⟨⟩) ⟨⟩ (fun _ _ _ _ => ⟨⟩)
def asA : Value → AV := Value.rec (motive_1 := fun _ => AV) (motive_2 := fun _ => PUnit) (motive_3 := fun _ => PUnit) (fun _ => .no) (fun _ _ => .no) (fun _ _ => .no) (fun _ _ _ => .no) (fun _ => .no) AV.mk (fun _ _ _ => .no) (fun _ => .no) (fun _ => .no) (fun _ _ _ _ _ => .no) .no (fun _ _ _ => .no) .no (fun _ _ => .no) (fun _ _ => .no) (fun _ _ => ⟨⟩) ⟨⟩ (fun _ _ _ _ => ⟨⟩)
def asL : Value → LV := Value.rec (motive_1 := fun _ => LV) (motive_2 := fun _ => PUnit) (motive_3 := fun _ => PUnit) (fun _ => .no) (fun _ _ => .no) (fun _ _ => .no) (fun _ _ _ => .no) (fun _ => .no) (fun _ => .no) LV.mk (fun _ => .no) (fun _ => .no) (fun _ _ _ _ _ => .no) .no (fun _ _ _ => .no) .no (fun _ _ => .no) (fun _ _ => .no) (fun _ _ => ⟨⟩) ⟨⟩ (fun _ _ _ _ => ⟨⟩)
def asF : Value → FV := Value.rec (motive_1 := fun _ => FV) (motive_2 := fun _ => PUnit) (motive_3 := fun _ => PUnit) (fun _ => .no) (fun _ _ => .no) (fun _ _ => .no) (fun _ _ _ => .no) (fun _ => .no) (fun _ => .no) (fun _ _ _ => .no) (fun _ => .no) (fun _ => .no) (fun g a b _ _ => FV.mk g a b) .no (fun _ _ _ => .no) .no (fun _ _ => .no) (fun _ _ => .no) (fun _ _ => ⟨⟩) ⟨⟩ (fun _ _ _ _ => ⟨⟩)
def asT : Value → TV := Value.rec (motive_1 := fun _ => TV) (motive_2 := fun _ => PUnit) (motive_3 := fun _ => PUnit) (fun _ => .no) (fun _ _ => .no) (fun _ _ => .no) (fun _ _ _ => .no) (fun _ => .no) (fun _ => .no) (fun _ _ _ => .no) (fun _ => .no) (fun _ => .no) (fun _ _ _ _ _ => .no) .no (fun _ _ _ => .no) .no (fun _ _ => .no) (fun vs _ => TV.mk vs.toList) (fun _ _ => ⟨⟩) ⟨⟩ (fun _ _ _ _ => ⟨⟩)
theorem W9 {β : Type} (z : β) (f : Nat → Nat → β) (v : Value) : PV.rec (motive := fun _ => β) z f (asP v) = (match v with | .pointer (some ⟨k, off, none⟩) => f k off | _ => z) := by
 cases v with
 | pointer a =>
  cases a with
  | none => rfl
  | some a =>
   obtain ⟨k, off, sp⟩ := a
   cases sp <;> rfl
 | _ => rfl
theorem Xn {β : Type} (z : β) (f : IntKind → Int → β) (v : Value) : IV.rec (motive := fun _ => β) z f (asI v) = (match v with | .int k n => f k n | _ => z) := by cases v <;> rfl
theorem Q6 {β : Type} (z : β) (f : Bool → β) (v : Value) : BV.rec (motive := fun _ => β) z f (asB v) = (match v with | .bool b => f b | _ => z) := by cases v <;> rfl
theorem F9 {β : Type} (z : β) (f : Option Addr → Nat → Nat → β) (v : Value) : LV.rec (motive := fun _ => β) z f (asL v) = (match v with | .slice a b c => f a b c | _ => z) := by cases v <;> rfl
theorem SL {β : Type} (z : β) (f : Fn → Array Value → Array Value → β) (v : Value) : FV.rec (motive := fun _ => β) z f (asF v) = (match v with | .func g a b => f g a b | _ => z) := by cases v <;> rfl
theorem SJ {β : Type} (z : β) (f : List Value → β) (v : Value) : TV.rec (motive := fun _ => β) z f (asT v) = (match v with | .tuple vs => f vs.toList | _ => z) := by cases v <;> rfl
theorem Xm {α : Type} (c : Bool) (a b : α) : Bool.rec (motive := fun _ => α) b a c = if c = true then a else b := by cases c <;> rfl
def kcd : IntKind → Nat := IntKind.rec (motive := fun _ => Nat) 0 1 2 3 4 5 6 7
def Pp (a b : IntKind) : Bool := Nat.beq (kcd a) (kcd b)
theorem Cs (a b : IntKind) : Pp a b = decide (a = b) := by cases a <;> cases b <;> rfl
def VV : IntKind → Nat := IntKind.rec (motive := fun _ => Nat) 256 65536 4294967296 18446744073709551616 256 65536 4294967296 18446744073709551616
def CW : IntKind → Nat := IntKind.rec (motive := fun _ => Nat) 128 32768 2147483648 9223372036854775808 256 65536 4294967296 18446744073709551616
theorem Sk (k : IntKind) : VV k = zt k := by cases k <;> rfl
def QT (k : IntKind) (m : Nat) : Int := Bool.rec (motive := fun _ => Int) (zv k (Int.ofNat m)) (Int.ofNat m) (Nat.ble (Nat.succ m) (CW k))
theorem YP (k : IntKind) (m : Nat) : QT k m = zv k (.ofNat m) := by
 show Bool.rec (motive := fun _ => Int) (zv k (Int.ofNat m)) (Int.ofNat m) (Nat.blt m (CW k)) = _
 by_cases h : m < CW k
 · rw [Zh h]
   show Int.ofNat m = _
   have hl : low k (.ofNat m) = m := by
    cases k <;> simp only [CW] at h <;> exact Nat.mod_eq_of_lt (by simp only [zt]; omega)
   have hb : YB k = true → Nat.ble (WA k) m = false := by
    intro hs
    cases k <;> simp only [CW] at h <;> first | (cases hs; done) | exact (by rw [Bool.eq_false_iff]; intro hb; have := Nat.le_of_ble_eq_true hb; simp only [WA] at this; omega)
   unfold zv
   simp only [hl]
   cases hs : YB k with
   | false => rfl
   | true => rw [hb hs]; rfl
 · rw [ZS h]
inductive Bf where
 | mk (f : Value → Value → Option Value)
def two (op : BinOp) (F : IntKind → Int → Int → Option Value) : Bf :=
 .mk fun x y => IV.rec (motive := fun _ => Option Value) (zy op x y) (fun k a => IV.rec (motive := fun _ => Option Value) none (fun k' b => Bool.rec (motive := fun _ => Option Value) none (F k a b) (Nat.beq (kcd k) (kcd k'))) (asI y)) (asI x)
def PL (k : IntKind) (a b : Int) : Option Value := Int.rec (motive := fun _ => Option Value) (fun m => Int.rec (motive := fun _ => Option Value) (fun n => some (.int k (QT k (Nat.add m n)))) (fun _ => zn .add k a b) b) (fun _ => zn .add k a b) a
def R7 (k : IntKind) (a b : Int) : Option Value := Int.rec (motive := fun _ => Option Value) (fun m => Int.rec (motive := fun _ => Option Value) (fun n => Bool.rec (motive := fun _ => Option Value) (zn .sub k a b) (some (.int k (QT k (Nat.sub m n)))) (Nat.ble n m)) (fun _ => zn .sub k a b) b) (fun _ => zn .sub k a b) a
def PF (k : IntKind) (a b : Int) : Option Value := Int.rec (motive := fun _ => Option Value) (fun m => Int.rec (motive := fun _ => Option Value) (fun n => some (.int k (QT k (Nat.mul m n)))) (fun _ => zn .mul k a b) b) (fun _ => zn .mul k a b) a
def PK (k : IntKind) (a b : Int) : Option Value := Int.rec (motive := fun _ => Option Value) (fun m => Int.rec (motive := fun _ => Option Value) (fun n => some (.int k (QT k (Nat.land (Nat.mod m (VV k)) (Nat.mod n (VV k)))))) (fun _ => zn .and k a b) b) (fun _ => zn .and k a b) a
def fOr (k : IntKind) (a b : Int) : Option Value := Int.rec (motive := fun _ => Option Value) (fun m => Int.rec (motive := fun _ => Option Value) (fun n => some (.int k (QT k (Nat.lor (Nat.mod m (VV k)) (Nat.mod n (VV k)))))) (fun _ => zn .or k a b) b) (fun _ => zn .or k a b) a
def PC (k : IntKind) (a b : Int) : Option Value := Int.rec (motive := fun _ => Option Value) (fun m => Int.rec (motive := fun _ => Option Value) (fun n => some (.int k (QT k (Nat.xor (Nat.mod m (VV k)) (Nat.mod n (VV k)))))) (fun _ => zn .xor k a b) b) (fun _ => zn .xor k a b) a
def Pa (k : IntKind) (a b : Int) : Option Value := Int.rec (motive := fun _ => Option Value) (fun m => Int.rec (motive := fun _ => Option Value) (fun n => some (.bool (Nat.beq m n))) (fun _ => zn .eql k a b) b) (fun _ => zn .eql k a b) a
def R9 (k : IntKind) (a b : Int) : Option Value := Int.rec (motive := fun _ => Option Value) (fun m => Int.rec (motive := fun _ => Option Value) (fun n => some (.bool (Bool.rec (motive := fun _ => Bool) true false (Nat.beq m n)))) (fun _ => zn .neq k a b) b) (fun _ => zn .neq k a b) a
def PG (k : IntKind) (a b : Int) : Option Value := Int.rec (motive := fun _ => Option Value) (fun m => Int.rec (motive := fun _ => Option Value) (fun n => some (.bool (Nat.ble (Nat.succ m) n))) (fun _ => zn .lss k a b) b) (fun _ => zn .lss k a b) a
def PH (k : IntKind) (a b : Int) : Option Value := Int.rec (motive := fun _ => Option Value) (fun m => Int.rec (motive := fun _ => Option Value) (fun n => some (.bool (Nat.ble m n))) (fun _ => zn .leq k a b) b) (fun _ => zn .leq k a b) a
def PI (k : IntKind) (a b : Int) : Option Value := Int.rec (motive := fun _ => Option Value) (fun m => Int.rec (motive := fun _ => Option Value) (fun n => some (.bool (Nat.ble (Nat.succ n) m))) (fun _ => zn .gtr k a b) b) (fun _ => zn .gtr k a b) a
def PJ (k : IntKind) (a b : Int) : Option Value := Int.rec (motive := fun _ => Option Value) (fun m => Int.rec (motive := fun _ => Option Value) (fun n => some (.bool (Nat.ble n m))) (fun _ => zn .geq k a b) b) (fun _ => zn .geq k a b) a
def Tt : IntKind → Nat := IntKind.rec (motive := fun _ => Nat) 8 16 32 64 8 16 32 64
theorem Ts (k : IntKind) : Tt k = bitsOf k := by cases k <;> rfl
def Sl (k : IntKind) (n : Nat) : Nat := Bool.rec (motive := fun _ => Nat) n (Tt k) (Nat.ble (Tt k) n)
def PE (k : IntKind) (a b : Int) : Option Value := Int.rec (motive := fun _ => Option Value) (fun m => Int.rec (motive := fun _ => Option Value) (fun n => some (.int k (QT k (Nat.mul m (Nat.pow 2 (Sl k n)))))) (fun _ => Zt .shl k a b) b) (fun _ => Zt .shl k a b) a
def PD (k : IntKind) (a b : Int) : Option Value := Int.rec (motive := fun _ => Option Value) (fun m => Int.rec (motive := fun _ => Option Value) (fun n => some (.int k (Int.ofNat (Nat.div m (Nat.pow 2 (Sl k n)))))) (fun _ => Zt .shr k a b) b) (fun _ => Zt .shr k a b) a
def shf (op : BinOp) (F : IntKind → Int → Int → Option Value) : Bf :=
 .mk fun x y => IV.rec (motive := fun _ => Option Value) (zy op x y) (fun k a => IV.rec (motive := fun _ => Option Value) (zy op x y) (fun _ b => F k a b) (asI y)) (asI x)
def Rc (op : BinOp) : Bf :=
 match op with
 | .add => two .add PL
 | .sub => two .sub R7
 | .mul => two .mul PF
 | .and => two .and PK
 | .or => two .or fOr
 | .xor => two .xor PC
 | .eql => two .eql Pa
 | .neq => two .neq R9
 | .lss => two .lss PG
 | .leq => two .leq PH
 | .gtr => two .gtr PI
 | .geq => two .geq PJ
 | .shl => shf .shl PE
 | .shr => shf .shr PD
 | op => .mk (zy op)
theorem XG (k : IntKind) (a b : Int) (op : BinOp) (g : Nat → Nat → Option Value) (h : ∀ m n, g m n = zn op k (.ofNat m) (.ofNat n)) :
 Int.rec (motive := fun _ => Option Value) (fun m => Int.rec (motive := fun _ => Option Value) (fun n => g m n) (fun _ => zn op k a b) b) (fun _ => zn op k a b) a = zn op k a b := by
 cases a with
 | ofNat m => cases b with
  | ofNat n => exact h m n
  | negSucc n => rfl
 | negSucc m => rfl
theorem Rh (k : IntKind) (a b : Int) (op : BinOp) (g : Nat → Nat → Option Value) (h : ∀ m n, g m n = Zt op k (.ofNat m) (.ofNat n)) :
 Int.rec (motive := fun _ => Option Value) (fun m => Int.rec (motive := fun _ => Option Value) (fun n => g m n) (fun _ => Zt op k a b) b) (fun _ => Zt op k a b) a = Zt op k a b := by
 cases a with
 | ofNat m => cases b with
  | ofNat n => exact h m n
  | negSucc n => rfl
 | negSucc m => rfl
theorem Kk (a b : IntKind) : Nat.beq (kcd a) (kcd b) = decide (a = b) := Cs a b
theorem Yi {op : BinOp} {F : IntKind → Int → Int → Option Value} (h1 : op ≠ .shl) (h2 : op ≠ .shr) (h : ∀ k a b, F k a b = zn op k a b) : two op F = .mk (zy op) := by
 refine congrArg Bf.mk (funext fun x => funext fun y => ?_)
 rw [Xn]
 cases x with
 | int k a =>
  simp only [Xn]
  cases y with
  | int k' b =>
   simp only [h, Kk, Xm]
   have : zy op (.int k a) (.int k' b) = if k = k' then zn op k a b else none := by
    cases op <;> first | rfl | exact absurd rfl h1 | exact absurd rfl h2
   rw [this]
   by_cases e : k = k' <;> simp [e]
  | _ => rfl
 | _ => rfl
theorem Cq {op : BinOp} {F : IntKind → Int → Int → Option Value} (h : ∀ k k' a b, F k a b = zy op (.int k a) (.int k' b)) : shf op F = .mk (zy op) := by
 refine congrArg Bf.mk (funext fun x => funext fun y => ?_)
 rw [Xn]
 cases x with
 | int k a =>
  simp only [Xn]
  cases y with
  | int k' b => exact h k k' a b
  | _ => rfl
 | _ => rfl
theorem FK (k : IntKind) (n : Nat) : Sl k n = if Nat.ble (bitsOf k) n then bitsOf k else n := by
 unfold Sl
 rw [Ts, Xm]
theorem Kp (n : Nat) : ¬ (Int.ofNat n < 0) := by simp only [Int.ofNat_eq_natCast]; omega
theorem SC (k : IntKind) (a b : Int) : PL k a b = zn .add k a b := XG k a b .add _ fun m n => by rw [YP]; rfl
theorem Ss (k : IntKind) (a b : Int) : R7 k a b = zn .sub k a b := by
 unfold R7
 cases a with
 | ofNat m => cases b with
  | ofNat n =>
   show Bool.rec (motive := fun _ => Option Value) (zn .sub k (.ofNat m) (.ofNat n)) (some (.int k (QT k (Nat.sub m n)))) (Nat.ble n m) = _
   cases h : Nat.ble n m with
   | false => rfl
   | true =>
    have hle := Nat.le_of_ble_eq_true h
    have e : (Int.ofNat m - Int.ofNat n) = Int.ofNat (m - n) := by simp only [Int.ofNat_eq_natCast]; omega
    show some (Value.int k (QT k (m - n))) = some (.int k (zv k (Int.ofNat m - Int.ofNat n)))
    rw [YP, e]
  | negSucc n => rfl
 | negSucc m => rfl
theorem Sw (k : IntKind) (a b : Int) : PF k a b = zn .mul k a b := XG k a b .mul _ fun m n => by rw [YP]; rfl
theorem XZ (k : IntKind) (m : Nat) : low k (.ofNat m) = Nat.mod m (VV k) := by rw [Sk]; rfl
theorem SB (k : IntKind) (a b : Int) : PK k a b = zn .and k a b := XG k a b .and _ fun m n => by rw [YP, ← XZ, ← XZ]; rfl
theorem R8 (k : IntKind) (a b : Int) : fOr k a b = zn .or k a b := XG k a b .or _ fun m n => by rw [YP, ← XZ, ← XZ]; rfl
theorem Sr (k : IntKind) (a b : Int) : PC k a b = zn .xor k a b := XG k a b .xor _ fun m n => by rw [YP, ← XZ, ← XZ]; rfl
theorem F8 (m n : Nat) : Nat.beq m n = decide (Int.ofNat m = Int.ofNat n) := by
 rw [Bool.eq_iff_iff, decide_eq_true_iff]
 constructor
 · intro h; rw [Nat.eq_of_beq_eq_true h]
 · intro h; cases h; exact Nat.beq_refl _
theorem FU (k : IntKind) (a b : Int) : Pa k a b = zn .eql k a b := XG k a b .eql _ fun m n => by rw [F8]; rfl
theorem FT (k : IntKind) (a b : Int) : R9 k a b = zn .neq k a b := XG k a b .neq _ fun m n => by
 rw [F8]
 show some (Value.bool (Bool.rec (motive := fun _ => Bool) true false (decide (Int.ofNat m = Int.ofNat n)))) = some (.bool (!decide (Int.ofNat m = Int.ofNat n)))
 cases decide (Int.ofNat m = Int.ofNat n) <;> rfl
theorem F6 (m n : Nat) : Nat.blt m n = decide (Int.ofNat m < Int.ofNat n) := by
 rw [Bool.eq_iff_iff, decide_eq_true_iff, zL]; simp only [Int.ofNat_eq_natCast]; omega
theorem F7 (m n : Nat) : Nat.ble m n = decide (Int.ofNat m ≤ Int.ofNat n) := by
 rw [Bool.eq_iff_iff, decide_eq_true_iff, Nat.ble_eq]; simp only [Int.ofNat_eq_natCast]; omega
theorem Sx (k : IntKind) (a b : Int) : PG k a b = zn .lss k a b := XG k a b .lss _ fun m n => by
 show some (Value.bool (Nat.blt m n)) = _
 rw [F6]; rfl
theorem Sy (k : IntKind) (a b : Int) : PH k a b = zn .leq k a b := XG k a b .leq _ fun m n => by rw [F7]; rfl
theorem Sz (k : IntKind) (a b : Int) : PI k a b = zn .gtr k a b := XG k a b .gtr _ fun m n => by
 show some (Value.bool (Nat.blt n m)) = _
 rw [F6]; rfl
theorem SA (k : IntKind) (a b : Int) : PJ k a b = zn .geq k a b := XG k a b .geq _ fun m n => by rw [F7]; rfl
theorem Sv (k k' : IntKind) (a b : Int) : PE k a b = zy .shl (.int k a) (.int k' b) := Rh k a b .shl _ fun m n => by
 rw [YP, FK]
 simp only [Zt, Kp, if_false]
 rfl
theorem Gh (m p : Nat) : Int.fdiv (.ofNat m) (.ofNat p) = .ofNat (m / p) := by
 cases m with
 | zero => simp [Int.fdiv]
 | succ m => rfl
theorem Su (k k' : IntKind) (a b : Int) : PD k a b = zy .shr (.int k a) (.int k' b) := Rh k a b .shr _ fun m n => by
 rw [FK]
 simp only [Zt, Kp, if_false]
 exact congrArg (fun z => some (Value.int k z)) (Gh _ _).symm
theorem CP (op : BinOp) : Rc op = .mk (zy op) := by
 cases op <;> first
  | rfl
  | exact Yi (by simp) (by simp) SC
  | exact Yi (by simp) (by simp) Ss
  | exact Yi (by simp) (by simp) Sw
  | exact Yi (by simp) (by simp) SB
  | exact Yi (by simp) (by simp) R8
  | exact Yi (by simp) (by simp) Sr
  | exact Yi (by simp) (by simp) FU
  | exact Yi (by simp) (by simp) FT
  | exact Yi (by simp) (by simp) Sx
  | exact Yi (by simp) (by simp) Sy
  | exact Yi (by simp) (by simp) Sz
  | exact Yi (by simp) (by simp) SA
  | exact Cq Sv
  | exact Cq Su
inductive Rd where
 | mk (f : PT Value → Value)
def orU (o : Option Value) : Value := Option.rec zl (fun v => v) o
def rd (x : Operand) : Rd := Operand.rec (motive := fun _ => Rd) (fun i => Rdx.rec (fun f => Rd.mk fun t => orU (f t)) (rdx i)) (fun v => Rd.mk fun _ => v) (fun _ => Rd.mk fun _ => zl) (fun f => Rd.mk fun _ => .func (.func f) #[] #[]) x
theorem FE (x : Operand) : rd x = .mk fun t => ev t x := by
 cases x with
 | tmp i =>
  show Rdx.rec (motive := fun _ => Rd) (fun f => Rd.mk fun t => orU (f t)) (rdx i) = _
  rw [Js]
  refine congrArg Rd.mk (funext fun t => ?_)
  show orU (t.get i) = (t.get i).getD zl
  cases t.get i <;> rfl
 | const v => rfl
 | global g => rfl
 | func f => rfl
inductive La where
 | mk (f : PT Value → List Value)
def la (xs : List Operand) : La := List.rec (motive := fun _ => La) (La.mk fun _ => []) (fun x _ ih => Rd.rec (fun f => La.rec (fun g => La.mk fun t => f t :: g t) ih) (rd x)) xs
theorem CY : ∀ xs : List Operand, la xs = .mk fun t => xs.map (ev t)
 | [] => rfl
 | x :: xs => by
  show Rd.rec (motive := fun _ => La) (fun f => La.rec (motive := fun _ => La) (fun g => La.mk fun t => f t :: g t) (la xs)) (rd x) = _
  rw [FE, CY xs]
  rfl
def JM {β : Type} (f : Nat → β) (n : Nat) : β := Nat.rec (motive := fun _ => β) (f 0) (fun m _ => f (Nat.succ m)) n
theorem Wg {β : Type} (f : Nat → β) (n : Nat) : JM f n = f n := by cases n <;> rfl
def hp (s : DS) (k : Nat) : Option DObj := DS.rec (motive := fun _ => Option DObj) (fun h n v w => Bool.rec (motive := fun _ => Option DObj) none (Bool.rec (motive := fun _ => Option DObj) none (Rdx.rec (motive := fun _ => Option DObj) (fun f => f h) (rdx k)) (v k)) (Nat.ble (Nat.succ k) n)) s
theorem JF (s : DS) (k : Nat) : hp s k = s.get k := by
 unfold hp DS.get
 rw [Js]
 show Bool.rec (motive := fun _ => Option DObj) none (Bool.rec (motive := fun _ => Option DObj) none (s.heap.get k) (s.vis k)) (Nat.blt k s.next) = _
 cases Nat.blt k s.next <;> cases s.vis k <;> rfl
inductive Nt where
 | mk (f : List Value → Option Value)
def nth (i : Nat) : Nt := Nat.rec (motive := fun _ => Nt) (Nt.mk (List.rec none fun x _ _ => some x)) (fun _ ih => Nt.rec (fun f => Nt.mk (List.rec none fun _ l _ => f l)) ih) i
theorem K5 : ∀ i : Nat, nth i = .mk fun l => getN l i
 | 0 => congrArg Nt.mk (funext fun l => by cases l <;> rfl)
 | i + 1 => by
  show Nt.rec (motive := fun _ => Nt) (fun f => Nt.mk (List.rec none fun _ l _ => f l)) (nth i) = _
  rw [K5 i]
  exact congrArg Nt.mk (funext fun l => by cases l <;> rfl)
inductive Ns where
 | mk (f : Value → List Value → List Value)
def GZ (i : Nat) : Ns := Nat.rec (motive := fun _ => Ns) (Ns.mk fun v => List.rec [] fun _ l _ => v :: l) (fun _ ih => Ns.rec (fun f => Ns.mk fun v => List.rec [] fun x l _ => x :: f v l) ih) i
theorem K6 : ∀ i : Nat, GZ i = .mk fun v l => Zq l i v
 | 0 => congrArg Ns.mk (funext fun v => funext fun l => by cases l <;> rfl)
 | i + 1 => by
  show Ns.rec (motive := fun _ => Ns) (fun f => Ns.mk fun v => List.rec [] fun x l _ => x :: f v l) (GZ i) = _
  rw [K6 i]
  exact congrArg Ns.mk (funext fun v => funext fun l => by cases l <;> rfl)
def RQ (c : Cells) (i : Nat) : Option Value :=
 Cells.rec (motive := fun _ => Option Value) (fun l => Nt.rec (motive := fun _ => Option Value) (fun f => f l) (nth i)) (fun n z t => Bool.rec (motive := fun _ => Option Value) none (some (Option.rec (motive := fun _ => Value) z (fun v => v) (Rdx.rec (motive := fun _ => Option Value) (fun f => f t) (rdx i)))) (Nat.ble (Nat.succ i) n)) (fun l => Nt.rec (motive := fun _ => Option Value) (fun f => f l) (nth i)) c
theorem Fx (c : Cells) (i : Nat) : RQ c i = c.get i := by
 cases c with
 | list l => show Nt.rec (motive := fun _ => Option Value) (fun f => f l) (nth i) = _; rw [K5]; rfl
 | str l => show Nt.rec (motive := fun _ => Option Value) (fun f => f l) (nth i) = _; rw [K5]; rfl
 | tree n z t =>
  show Bool.rec (motive := fun _ => Option Value) none (some (Option.rec (motive := fun _ => Value) z (fun v => v) (Rdx.rec (motive := fun _ => Option Value) (fun f => f t) (rdx i)))) (Nat.blt i n) = if i < n then some ((t.get i).getD z) else none
  rw [Js]
  by_cases h : i < n
  · rw [Zh h, if_pos h]
    show some (Option.rec (motive := fun _ => Value) z (fun v => v) (t.get i)) = _
    cases t.get i <;> rfl
  · rw [ZS h, if_neg h]
def Ph (c : Cells) (i : Nat) (v : Value) : Cells :=
 Cells.rec (motive := fun _ => Cells) (fun l => .list (Ns.rec (motive := fun _ => List Value) (fun f => f v l) (GZ i))) (fun n z t => .tree n z (Bool.rec (motive := fun _ => PT Value) t (Wr.rec (motive := fun _ => PT Value) (fun w => w (some v) t) (wrs i)) (Nat.ble (Nat.succ i) n))) (fun l => .str (Ns.rec (motive := fun _ => List Value) (fun f => f v l) (GZ i))) c
theorem TX (c : Cells) (i : Nat) (v : Value) : Ph c i v = c.set i v := by
 cases c with
 | list l => show Cells.list (Ns.rec (motive := fun _ => List Value) (fun f => f v l) (GZ i)) = _; rw [K6]; rfl
 | str l => show Cells.str (Ns.rec (motive := fun _ => List Value) (fun f => f v l) (GZ i)) = _; rw [K6]; rfl
 | tree n z t =>
  show Cells.tree n z (Bool.rec (motive := fun _ => PT Value) t (Wr.rec (motive := fun _ => PT Value) (fun w => w (some v) t) (wrs i)) (Nat.blt i n)) = .tree n z (if i < n then t.put i (some v) else t)
  rw [Qe]
  by_cases h : i < n
  · rw [Zh h, if_pos h]
  · rw [ZS h, if_neg h]
def QR (s : DS) (o : DObj) : DS := DS.rec (motive := fun _ => DS) (fun h n v w => JM (fun n => DS.mk (Wr.rec (motive := fun _ => PT DObj) (fun f => f (some o) h) (wrs n)) (Nat.succ n) v w) n) s
theorem Y9 (s : DS) (o : DObj) : QR s o = s.new o := by
 unfold QR
 cases s
 simp only [Wg, Qe]
 rfl
inductive XOp where
 | tot (f : PT Value → Value)
 | val (f : PT Value → DS → Option Value)
 | eff (f : PT Value → DS → Option DS)
 | neu (f : PT Value → DObj)
 | act (f : zg → PT Value → DS → Option (Value × DS))
def XOp.go (o : XOp) (call : zg) (t : PT Value) (s : DS) : Option (Value × DS) :=
 XOp.rec (motive := fun _ => Option (Value × DS)) (fun f => some (f t, s)) (fun f => Option.rec none (fun v => some (v, s)) (f t s)) (fun f => Option.rec none (fun s' => some (zl, s')) (f t s))
  (fun f => some (.pointer (some ⟨s.next, 0, none⟩), QR s (f t))) (fun f => f call t s) o
def asN (v : Value) : Option Nat := IV.rec (motive := fun _ => Option Nat) none (fun _ a => Int.rec (motive := fun _ => Option Nat) (fun n => some n) (fun _ => none) a) (asI v)
theorem TB (v : Value) : asN v = zI v := by
 unfold asN
 rw [Xn]
 cases v with
 | int k a => cases a <;> rfl
 | _ => rfl
def lt1 (x : Operand) (F : (PT Value → Value) → XOp) : XOp := Rd.rec F (rd x)
theorem zP (x : Operand) (F : (PT Value → Value) → XOp) : lt1 x F = F fun t => ev t x := by unfold lt1; rw [FE]
def J0 {β : Type} (z : β) (f : Cells → Bool → β) (o : Option DObj) : β := Option.rec z (DObj.rec f (fun _ _ => z) (fun _ _ _ _ => z) (fun _ _ _ _ _ _ => z) z) o
theorem Wi {β : Type} (z : β) (f : Cells → Bool → β) (o : Option DObj) : J0 z f o = (match o with | some (.cells c ro) => f c ro | _ => z) := by
 cases o with
 | none => rfl
 | some o => cases o <;> rfl
def xld (v : Value) (s : DS) : Option Value := PV.rec (motive := fun _ => Option Value) none (fun k off => J0 none (fun c _ => JM (fun off => RQ c off) off) (hp s k)) (asP v)
theorem RP (ρ : Operand → Value) (s : DS) (a : Operand) : xld (ρ a) s = zi ρ s (.ld none a) := by
 simp only [xld, W9, Wg, Wi, JF, Fx, zi]
 generalize ρ a = A
 cases A with
 | pointer p =>
  cases p with
  | none => rfl
  | some ad =>
   obtain ⟨k, off, sp⟩ := ad
   cases sp with
   | some z => rfl
   | none =>
    dsimp only
    cases s.get k with
    | none => rfl
    | some ob => cases ob <;> rfl
 | _ => rfl
def DL : Value → Bool :=
 Value.rec (motive_1 := fun _ => Bool) (motive_2 := fun _ => PUnit) (motive_3 := fun _ => PUnit) (fun _ => true) (fun _ _ => true) (fun _ _ => true) (fun _ _ _ => true) (fun _ => true) (fun _ => true) (fun _ _ _ => true) (fun _ => true) (fun _ => true)
  (fun _ _ _ _ _ => true) true (fun _ _ _ => true) true (fun _ _ => false) (fun _ _ => false) (fun _ _ => ⟨⟩) ⟨⟩ (fun _ _ _ _ => ⟨⟩)
def Qh (size : Nat) (a v : Value) (s : DS) : Option DS :=
 match a with
 | .pointer (some ⟨k, off, none⟩) =>
  let cs := v.cells.toList
  if Nat.beq cs.length size && zm cs then s.write k off cs else none
 | _ => none
def Cb (s : DS) (k : Nat) (o : DObj) : Option DS := DS.rec (motive := fun _ => Option DS) (fun h n vis wr => Bool.rec (motive := fun _ => Option DS) none (some (DS.mk (Wr.rec (motive := fun _ => PT DObj) (fun f => f (some o) h) (wrs k)) n vis wr)) (wr k)) s
theorem KQ (s : DS) (k : Nat) (o : DObj) : Cb s k o = s.set k o := by
 unfold Cb DS.set
 rw [Qe]
 show Bool.rec (motive := fun _ => Option DS) none (some (DS.mk (s.heap.put k (some o)) s.next s.vis s.wr)) (s.wr k) = _
 cases s.wr k <;> rfl
def RN (a v : Value) (s : DS) : Option DS :=
 Bool.rec (motive := fun _ => Option DS) (Qh 1 a v s)
  (PV.rec (motive := fun _ => Option DS) none (fun k off => J0 none (fun c ro => Bool.rec (motive := fun _ => Option DS) (JM (fun off => Option.rec (motive := fun _ => Option DS) none (fun _ => Cb s k (.cells (Ph c off v) false)) (RQ c off)) off) none ro) (hp s k)) (asP a)) (DL v)
end
end Go.Dx
set_option linter.unusedVariables false
set_option linter.unusedSimpArgs false
set_option linter.unusedSectionVars false
namespace Go.Dx
open Go
noncomputable section
theorem GX {v : Value} (h : DL v = true) : v.cells.toList = [v] ∧ zB v = true := by
 cases v <;> first | exact ⟨rfl, rfl⟩ | cases h
theorem Jh : ∀ (l : List Value) (i : Nat), (getN l i).isSome = Nat.ble (i + 1) l.length
 | [], i => rfl
 | x :: l, 0 => rfl
 | x :: l, i + 1 => Jh l i
theorem Sp (c : Cells) (i : Nat) : (c.get i).isSome = Nat.ble (i + 1) c.size := by
 cases c with
 | list l => exact Jh l i
 | str l => exact Jh l i
 | tree n z t =>
  show (if i < n then some ((t.get i).getD z) else none).isSome = Nat.blt i n
  by_cases h : i < n
  · rw [if_pos h, Zh h]; rfl
  · rw [if_neg h, ZS h]; rfl
theorem TU (a v : Value) (s : DS) : RN a v s = Qh 1 a v s := by
 unfold RN
 cases h : DL v with
 | false => rfl
 | true =>
  show PV.rec (motive := fun _ => Option DS) none _ (asP a) = _
  rw [W9]
  obtain ⟨h1, h2⟩ := GX h
  cases a with
  | pointer p =>
   cases p with
   | none => rfl
   | some ad =>
    obtain ⟨k, off, sp⟩ := ad
    cases sp with
    | some z => rfl
    | none =>
     have hc : (Nat.beq v.cells.toList.length 1 && zm v.cells.toList) = true := by
      rw [h1]; simp only [List.length_singleton, zm, h2]; rfl
     simp only [Qh, hc, if_true, Wg, Wi, JF, Fx, TX, KQ]
     unfold DS.write
     rw [h1]
     cases s.get k with
     | none => rfl
     | some ob =>
      cases ob with
      | cells c ro =>
       cases ro with
       | true => rfl
       | false =>
        have hp := Sp c off
        show Option.rec (motive := fun _ => Option DS) none (fun _ => s.set k (.cells (c.set off v) false)) (c.get off) = if Nat.ble (off + 1) c.size = true then s.set k (.cells (c.set off v) false) else none
        rw [← hp]
        cases c.get off <;> rfl
      | _ => rfl
  | _ => rfl
def QS (l : List Value) : Nat := List.rec (motive := fun _ => Nat) 0 (fun _ _ ih => Nat.succ ih) l
theorem Yo : ∀ l : List Value, QS l = l.length
 | [] => rfl
 | _ :: l => congrArg Nat.succ (Yo l)
def Fs (l : List Value) : Bool := List.rec (motive := fun _ => Bool) true (fun v _ ih => Bool.rec (motive := fun _ => Bool) false ih (DL v)) l
theorem Sg (v : Value) : DL v = zB v := by cases v <;> rfl
theorem Q7 : ∀ l : List Value, Fs l = zm l
 | [] => rfl
 | v :: l => by
  show Bool.rec (motive := fun _ => Bool) false (Fs l) (DL v) = (zB v && zm l)
  rw [Sg, Q7 l]
  cases zB v <;> rfl
def Gm (n : Nat) : List Value → List Value := Nat.rec (motive := fun _ => List Value → List Value) (fun l => l) (fun _ ih l => List.rec (motive := fun _ => List Value) [] (fun _ t _ => ih t) l) n
theorem JT : ∀ (n : Nat) (l : List Value), Gm n l = l.drop n
 | 0, _ => rfl
 | n + 1, [] => rfl
 | n + 1, _ :: l => JT n l
def tkX (n : Nat) : List Value → Option (List Value) := Nat.rec (motive := fun _ => List Value → Option (List Value)) (fun _ => some []) (fun _ ih l => List.rec (motive := fun _ => Option (List Value)) none (fun x t _ => Option.rec (motive := fun _ => Option (List Value)) none (fun r => some (x :: r)) (ih t)) l) n
theorem Kr : ∀ (l : List Value) (off : Nat), getN l off = (l.drop off).head?
 | [], off => by simp [getN]
 | x :: l, 0 => rfl
 | x :: l, off + 1 => Kr l off
theorem GN (c : Cells) (l : List Value) (hc : ∀ i, c.get i = getN l i) : ∀ (n off : Nat), tkX n (l.drop off) = c.take off n
 | 0, _ => rfl
 | n + 1, off => by
  simp only [Cells.take, hc, Kr]
  cases hd : l.drop off with
  | nil => rfl
  | cons x t =>
   have ht : t = l.drop (off + 1) := by
    rw [← List.drop_drop, hd]; rfl
   show Option.rec (motive := fun _ => Option (List Value)) none (fun r => some (x :: r)) (tkX n t) = (match c.take (off + 1) n with | none => none | some l => some (x :: l))
   rw [ht, GN c l hc n (off + 1)]
   cases c.take (off + 1) n <;> rfl
def D9 (c : Cells) (off n : Nat) : Option (List Value) := Cells.rec (motive := fun _ => Option (List Value)) (fun l => tkX n (Gm off l)) (fun _ _ _ => c.take off n) (fun l => tkX n (Gm off l)) c
theorem Vr (c : Cells) (off n : Nat) : D9 c off n = c.take off n := by
 cases c with
 | list l => show tkX n (Gm off l) = _; rw [JT]; exact GN _ l (fun _ => rfl) n off
 | str l => show tkX n (Gm off l) = _; rw [JT]; exact GN _ l (fun _ => rfl) n off
 | tree m z t => rfl
def Pw (vs : List Value) : List Value → List Value := List.rec (motive := fun _ => List Value → List Value) (fun l => l) (fun v _ ih l => List.rec (motive := fun _ => List Value) [] (fun _ t _ => v :: ih t) l) vs
def JQ (off : Nat) (vs : List Value) : List Value → List Value := Nat.rec (motive := fun _ => List Value → List Value) (Pw vs) (fun _ ih l => List.rec (motive := fun _ => List Value) [] (fun x t _ => x :: ih t) l) off
theorem Qn : ∀ (off : Nat) (l : List Value), JQ off [] l = l
 | 0, _ => rfl
 | off + 1, [] => rfl
 | off + 1, x :: l => congrArg (x :: ·) (Qn off l)
theorem WD : ∀ (off : Nat) (v : Value) (vs l : List Value), JQ off (v :: vs) l = JQ (off + 1) vs (Zq l off v)
 | 0, v, vs, [] => by cases vs <;> rfl
 | 0, v, vs, x :: l => rfl
 | off + 1, v, vs, [] => rfl
 | off + 1, v, vs, x :: l => congrArg (x :: ·) (WD off v vs l)
theorem JP : ∀ (vs : List Value) (off : Nat) (l : List Value), Cells.list (JQ off vs l) = (Cells.list l).fillFrom off vs
 | [], off, l => by rw [Qn]; rfl
 | v :: vs, off, l => by rw [WD]; exact JP vs (off + 1) _
theorem Ku : ∀ (vs : List Value) (off : Nat) (l : List Value), Cells.str (JQ off vs l) = (Cells.str l).fillFrom off vs
 | [], off, l => by rw [Qn]; rfl
 | v :: vs, off, l => by rw [WD]; exact Ku vs (off + 1) _
def SW (c : Cells) (off : Nat) (vs : List Value) : Cells := Cells.rec (motive := fun _ => Cells) (fun l => .list (JQ off vs l)) (fun _ _ _ => c.fillFrom off vs) (fun l => .str (JQ off vs l)) c
theorem Ce (c : Cells) (off : Nat) (vs : List Value) : SW c off vs = c.fillFrom off vs := by
 cases c with
 | list l => exact JP vs off l
 | str l => exact Ku vs off l
 | tree m z t => rfl
def ST (c : Cells) : Nat := Cells.rec (motive := fun _ => Nat) QS (fun n _ _ => n) QS c
theorem Ca (c : Cells) : ST c = c.size := by
 cases c with
 | list l => exact Yo l
 | str l => exact Yo l
 | tree m z t => rfl
def Kf (s : DS) (k off n : Nat) : Option (List Value) := J0 none (fun c _ => D9 c off n) (hp s k)
theorem Xt (s : DS) (k off n : Nat) : Kf s k off n = s.read k off n := by
 unfold Kf DS.read
 simp only [Wi, JF, Vr]
 cases s.get k with
 | none => rfl
 | some ob => cases ob <;> rfl
def Jc (s : DS) (k off : Nat) (l : List Value) : Option DS :=
 J0 none (fun c ro => Bool.rec (motive := fun _ => Option DS) (Bool.rec (motive := fun _ => Option DS) none (Cb s k (.cells (SW c off l) false)) (Nat.ble (Nat.add off (QS l)) (ST c))) none ro) (hp s k)
theorem Qd (s : DS) (k off : Nat) (l : List Value) : Jc s k off l = s.write k off l := by
 unfold Jc DS.write
 simp only [Wi, JF, Ce, KQ, Ca, Yo, Xm]
 cases s.get k with
 | none => rfl
 | some ob =>
  cases ob with
  | cells c ro => cases ro <;> rfl
  | _ => rfl
def SN (l r : List Value) : List Value := List.rec (motive := fun _ => List Value) l (fun _ _ _ => l ++ r) r
theorem SM (l r : List Value) : SN l r = l ++ r := by
 cases r with
 | nil => exact (List.append_nil l).symm
 | cons x r => rfl
def D6 (l r : List Value) : List Value := List.rec (motive := fun _ => List Value) r (fun x _ ih => x :: ih) l
theorem Da (l r : List Value) : D6 l r = l ++ r := by
 induction l with
 | nil => rfl
 | cons x l ih => exact congrArg (x :: ·) ih
def evX (t : PT Value) (x : Operand) : Value := Rd.rec (motive := fun _ => Value) (fun f => f t) (rd x)
theorem Vd (t : PT Value) : evX t = ev t := by
 funext x
 unfold evX
 rw [FE]
def VB (n : Nat) (k : List Value → Option (List Value)) : List Value → Option (List Value) :=
 Nat.rec (motive := fun _ => List Value → Option (List Value)) k (fun _ ih zs => List.rec (motive := fun _ => Option (List Value)) none (fun z t _ => Option.rec (motive := fun _ => Option (List Value)) none (fun r => some (z :: r)) (ih t)) zs) n
def VP (vs : List Value) (k : List Value → Option (List Value)) : List Value → Option (List Value) :=
 List.rec (motive := fun _ => List Value → Option (List Value)) k (fun v _ ih zs => List.rec (motive := fun _ => Option (List Value)) none (fun _ t _ => Option.rec (motive := fun _ => Option (List Value)) none (fun r => some (v :: r)) (ih t)) zs) vs
def FS (ρ : Operand → Value) (parts : List (Nat × Nat × Operand)) : Nat → List Value → Option (List Value) :=
 List.rec (motive := fun _ => Nat → List Value → Option (List Value)) (fun _ zs => some zs)
  (fun p _ ih pos zs => Bool.rec (motive := fun _ => Option (List Value)) none (Bool.rec (motive := fun _ => Option (List Value)) none
   (VB (Nat.sub p.1 pos) (VP (ρ p.2.2).cells.toList (ih (Nat.add p.1 p.2.1))) zs) (Nat.beq (QS (ρ p.2.2).cells.toList) p.2.1)) (Nat.ble pos p.1)) parts
theorem Jg : ∀ (n : Nat) (k : List Value → Option (List Value)) (zs r : List Value), VB n k zs = some r → ∃ a t r', zs = a ++ t ∧ a.length = n ∧ k t = some r' ∧ r = a ++ r'
 | 0, k, zs, r, h => ⟨[], zs, r, rfl, rfl, h, rfl⟩
 | n + 1, k, [], r, h => by cases h
 | n + 1, k, z :: zs, r, h => by
  have h : Option.rec (motive := fun _ => Option (List Value)) none (fun r => some (z :: r)) (VB n k zs) = some r := h
  cases h1 : VB n k zs with
  | none => rw [h1] at h; cases h
  | some r1 =>
   rw [h1] at h
   cases h
   obtain ⟨a, t, r', rfl, hl, hk, rfl⟩ := Jg n k zs r1 h1
   exact ⟨z :: a, t, r', rfl, congrArg Nat.succ hl, hk, rfl⟩
theorem Jw : ∀ (vs : List Value) (k : List Value → Option (List Value)) (zs r : List Value), VP vs k zs = some r → ∃ a t r', zs = a ++ t ∧ a.length = vs.length ∧ k t = some r' ∧ r = vs ++ r'
 | [], k, zs, r, h => ⟨[], zs, r, rfl, rfl, h, rfl⟩
 | v :: vs, k, [], r, h => by cases h
 | v :: vs, k, z :: zs, r, h => by
  have h : Option.rec (motive := fun _ => Option (List Value)) none (fun r => some (v :: r)) (VP vs k zs) = some r := h
  cases h1 : VP vs k zs with
  | none => rw [h1] at h; cases h
  | some r1 =>
   rw [h1] at h
   cases h
   obtain ⟨a, t, r', rfl, hl, hk, rfl⟩ := Jw vs k zs r1 h1
   exact ⟨z :: a, t, r', rfl, congrArg Nat.succ hl, hk, rfl⟩
theorem JR (ρ : Operand → Value) : ∀ (parts : List (Nat × Nat × Operand)) (pos : Nat) (zs r pre : List Value), FS ρ parts pos zs = some r → pre.length = pos → zq ρ (pre ++ zs) parts = some (pre ++ r)
 | [], pos, zs, r, pre, h, hp => by cases h; rfl
 | (off, size, x) :: rest, pos, zs, r, pre, h, hp => by
  have h : Bool.rec (motive := fun _ => Option (List Value)) none (Bool.rec (motive := fun _ => Option (List Value)) none
   (VB (Nat.sub off pos) (VP (ρ x).cells.toList (FS ρ rest (Nat.add off size))) zs) (Nat.beq (QS (ρ x).cells.toList) size)) (Nat.ble pos off) = some r := h
  cases h1 : Nat.ble pos off with
  | false => rw [h1] at h; cases h
  | true =>
   rw [h1] at h
   cases h2 : Nat.beq (QS (ρ x).cells.toList) size with
   | false => rw [h2] at h; cases h
   | true =>
    rw [h2] at h
    obtain ⟨a, t, r', rfl, hl, hk, rfl⟩ := Jg _ _ _ _ h
    obtain ⟨b, t', r'', rfl, hl', hk', rfl⟩ := Jw _ _ _ _ hk
    have hle := Nat.le_of_ble_eq_true h1
    have hsz := Nat.eq_of_beq_eq_true h2
    rw [Yo] at hsz h2
    have hoff : (pre ++ a).length = off := by rw [List.length_append, hp, hl]; show pos + (off - pos) = off; omega
    have hb : b.length = size := hl'.trans hsz
    simp only [zq]
    have hcond : (Nat.beq (ρ x).cells.toList.length size && Nat.ble (off + size) (pre ++ (a ++ (b ++ t'))).length) = true := by
     rw [h2]
     simp only [Bool.true_and, Nat.ble_eq, List.length_append]
     rw [List.length_append] at hoff
     omega
    rw [if_pos hcond]
    have e1 : (pre ++ (a ++ (b ++ t'))).take off = pre ++ a := by
     rw [← List.append_assoc, ← hoff, List.take_left]
    have e2 : (pre ++ (a ++ (b ++ t'))).drop (off + size) = t' := by
     have : pre ++ (a ++ (b ++ t')) = (pre ++ a ++ b) ++ t' := by simp [List.append_assoc]
     rw [this]
     have hlen : (pre ++ a ++ b).length = off + size := by rw [List.length_append, hoff, hb]
     rw [← hlen, List.drop_left]
    rw [e1, e2]
    have := JR ρ rest (off + size) t' r'' (pre ++ a ++ (ρ x).cells.toList) hk' (by rw [List.length_append, hoff, hsz])
    simpa [List.append_assoc] using this
def KR (ρ : Operand → Value) (z : List Value) (parts : List (Nat × Nat × Operand)) : Option (List Value) := Option.rec (motive := fun _ => Option (List Value)) (zq ρ z parts) (fun r => some r) (FS ρ parts 0 z)
theorem Kg (ρ : Operand → Value) (z : List Value) (parts : List (Nat × Nat × Operand)) : KR ρ z parts = zq ρ z parts := by
 unfold KR
 cases h : FS ρ parts 0 z with
 | none => rfl
 | some r => exact (JR ρ parts 0 z r [] h rfl).symm
def TW (s : DS) (size : Nat) (x : Value) (n : Nat) : Option (List Value) :=
 match x with
 | .slice none _ _ => some []
 | .slice (some ⟨k, off, _⟩) _ _ => Kf s k off (n * size)
 | .string b => some ((b.data.toList.take n).map fun c => .int .u8 c.toNat)
 | _ => none
theorem Fv (s : DS) (size : Nat) (x : Value) (n : Nat) : TW s size x n = Zm s size x n := by
 unfold TW Zm
 simp only [Xt]
 cases x with
 | slice a l c =>
  cases a with
  | none => rfl
  | some ad => obtain ⟨k, o, sp⟩ := ad; rfl
 | _ => rfl
def Cv (v : Value) : Option Value := BV.rec (motive := fun _ => Option Value) none (fun b => some (.bool (Bool.rec (motive := fun _ => Bool) true false b))) (asB v)
def GP (c a b : Value) : Option Value := BV.rec (motive := fun _ => Option Value) none (fun c => some (Bool.rec (motive := fun _ => Value) b a c)) (asB c)
def KZ (k : IntKind) (v : Value) : Option Value := IV.rec (motive := fun _ => Option Value) none (fun _ a => some (.int k (Int.rec (motive := fun _ => Int) (fun m => QT k m) (fun _ => zv k a) a))) (asI v)
def Pq (v : Value) : Option Value := match v with
 | .pointer (some a) => some (.pointer (some a))
 | .func (.func f) a b => some (.func (.func f) a b)
 | .func (.yield l) a b => some (.func (.yield l) a b)
 | _ => none
def Cg (v : Value) : Option Value := AV.rec (motive := fun _ => Option Value) (Pq v) (Option.rec none fun a => some (.pointer (some a))) (asA v)
def GR (off : Nat) (v : Value) : Option Value := PV.rec (motive := fun _ => Option Value) none (fun k o => some (.pointer (some ⟨k, Nat.add o off, none⟩))) (asP v)
def Cz (n size : Nat) (x i : Value) : Option Value := PV.rec (motive := fun _ => Option Value) none (fun k o => Option.rec (motive := fun _ => Option Value) none (fun j => Bool.rec (motive := fun _ => Option Value) none (some (.pointer (some ⟨k, Nat.add o (Nat.mul j size), none⟩))) (Nat.ble (Nat.succ j) n)) (asN i)) (asP x)
def Cx (size : Nat) (x i : Value) : Option Value := LV.rec (motive := fun _ => Option Value) none (fun a len _ => Option.rec (motive := fun _ => Option Value) none (Addr.rec (motive := fun _ => Option Value) fun k o _ => Option.rec (motive := fun _ => Option Value) none (fun j => Bool.rec (motive := fun _ => Option Value) none (some (.pointer (some ⟨k, Nat.add o (Nat.mul j size), none⟩))) (Nat.ble (Nat.succ j) len)) (asN i)) a) (asL x)
def GQ (v : Value) : Option Value := LV.rec (motive := fun _ => Option Value) none (fun _ n _ => some (.int .i64 (Int.ofNat n))) (asL v)
def CB (i : Nat) (v : Value) : Option Value := TV.rec (motive := fun _ => Option Value) none (fun l => Nt.rec (motive := fun _ => Option Value) (fun f => f l) (nth i)) (asT v)
def CC (neg : Bool) (x y : Value) : Option Value := IV.rec (motive := fun _ => Option Value) none (fun k a => IV.rec (motive := fun _ => Option Value) none (fun k' b => Bool.rec (motive := fun _ => Option Value) none (Bool.rec (motive := fun _ => Option Value) (Pa k a b) (R9 k a b) neg) (Nat.beq (kcd k) (kcd k'))) (asI y)) (asI x)
def Jl (neg : Bool) (k : SK) (x y : Value) : Option Value := Option.rec none (fun b => some (.bool (Bool.rec b (Bool.rec true false b) neg))) (zY k x y)
def S9 (neg : Bool) (x y : Value) : Option Value :=
 AV.rec (motive := fun _ => Option Value) none (fun a => AV.rec (motive := fun _ => Option Value) none (fun b => Option.rec (motive := fun _ => Option Value) (some (.bool (Option.rec (motive := fun _ => Bool) (Bool.rec (motive := fun _ => Bool) true false neg) (fun _ => Bool.rec (motive := fun _ => Bool) false true neg) b))) (fun _ => Option.rec (motive := fun _ => Option Value) (some (.bool (Bool.rec (motive := fun _ => Bool) false true neg))) (fun _ => Jl neg .ptr x y) b) a) (asA y)) (asA x)
def FA (z : List Value) (parts : List (Nat × Nat × Operand)) (ρ : Operand → Value) : Option Value := match KR ρ z parts with | some cs => some (.agg ⟨cs⟩) | none => none
def S5 (size : Nat) (x : Value) (lo hi mx : Option Value) : Option Value :=
 match x with
 | .slice a len cap => match Zw len cap lo hi mx with
  | some (l, h, m) => ZK a size l h m mx.isSome
  | none => none
 | _ => none
def S6 (n size : Nat) (x : Value) (lo hi mx : Option Value) : Option Value :=
 match x with
 | .pointer (some ⟨k, off, none⟩) => match Zw n n lo hi mx with
  | some (l, h, m) => ZK (some ⟨k, off, none⟩) size l h m true
  | none => none
 | _ => none
def Pr (off : Nat) (agg : Option Nat) (x : Value) : Option Value := match x with | .agg cs => partOf agg cs.toList off | _ => none
def R0 (n size : Nat) (agg : Option Nat) (x i : Value) : Option Value :=
 match x, zI i with
 | .agg cs, some j => if Nat.blt j n then partOf agg cs.toList (j * size) else none
 | _, _ => none
def RZ (x i : Value) : Option Value :=
 match x, zI i with
 | .string s, some j => match s.data.toList.drop j with
  | c :: _ => some (.int .u8 c.toNat)
  | [] => none
 | _, _ => none
def RY (x : Value) : Option Value := match x with | .string s => some (.int .i64 s.data.toList.length) | _ => none
def S7 (n : Nat) (a : Value) (s : DS) : Option Value :=
 match a with
 | .pointer (some ⟨k, off, none⟩) => match Kf s k off n with
  | some l => some (.agg ⟨l⟩)
  | none => none
 | _ => none
def Fz (x : Value) (s : DS) : Option Value :=
 match x with
 | .slice none _ _ => some (.string ⟨⟨[]⟩⟩)
 | .slice (some ⟨k, off, _⟩) len _ => match Kf s k off len with
  | some l => match Za l with
   | some b => some (.string ⟨⟨b⟩⟩)
   | none => none
  | none => none
 | _ => none
def Jm (n size : Nat) (z : List Value) (parts : List (Nat × Nat × Operand)) (ρ : Operand → Value) (s : DS) : Option (Value × DS) :=
 if Nat.ble (n * size) 1048576 then
  match KR ρ (repeatZ z n) parts with
  | some cs => some (.slice (some ⟨s.next, 0, none⟩) n n, QR s (.cells (.list cs) false))
  | none => none
 else none
def Qi (bytes : Nat) (z : List Value) (l c : Value) (s : DS) : Option (Value × DS) :=
 match zI l, zI c with
 | some l, some c =>
  if Nat.ble l c && Nat.ble c 1099511627776 && Nat.ble (c * bytes) 1099511627776 then
   some (.slice (some ⟨s.next, 0, none⟩) l c, QR s (.cells (match z with | [v] => if Nat.blt 32 c then .tree c v .nil else .list (repeatZ z c) | _ => .list (repeatZ z c)) false))
  else none
 | _, _ => none
def GT (bytes size : Nat) (x y : Value) (s : DS) : Option (Value × DS) :=
 match x, Yj y with
 | .slice base len cap, some n =>
  match TW s size y n with
  | none => none
  | some new =>
   if !(Nat.beq (QS new) (n * size) && Fs new) then none else
   if Nat.ble (len + n) cap then
    match base with
    | none => if Nat.beq n 0 then some (.slice none (len + n) cap, s) else none
    | some ⟨k, off, sp⟩ =>
     if Nat.beq n 0 then some (.slice (some ⟨k, off, sp⟩) (len + n) cap, s) else
     match Jc s k (off + len * size) new with
     | some s' => some (.slice (some ⟨k, off, sp⟩) (len + n) cap, s')
     | none => none
   else if Nat.ble (len + n) 1099511627776 && Nat.ble ((len + n) * bytes) 1099511627776 then
    match base with
    | none => if Nat.beq len 0 then some (.slice (some ⟨s.next, 0, some size⟩) n n, QR s (.cells (.list new) false)) else none
    | some ⟨k, off, none⟩ =>
     match Kf s k off (len * size) with
     | some old => if Fs old then some (.slice (some ⟨s.next, 0, some size⟩) (len + n) (len + n), QR s (.cells (.list (D6 old new)) false)) else none
     | none => none
    | some ⟨k, off, some sz⟩ =>
     if Nat.beq sz size then
      match hp s k with
      | some (.cells c false) => match D9 c off (len * size), s.kill k with
       | some old, some s' => if Fs old then some (.slice (some ⟨s'.next, 0, some size⟩) (len + n) (len + n), QR s' (.cells (c.like (D6 old new)) false)) else none
       | _, _ => none
      | _ => none
     else none
   else none
 | _, _ => none
def K0 (size : Nat) (d x : Value) (s : DS) : Option (Value × DS) :=
 match d, Yj x with
 | .slice base len _, some m =>
  let n := if Nat.ble m len then m else len
  match TW s size x n with
  | none => none
  | some new =>
   if !(Nat.beq (QS new) (n * size) && Fs new) then none else
   match base with
   | none => some (.int .i64 n, s)
   | some ⟨k, off, _⟩ =>
    if Nat.beq n 0 then some (.int .i64 n, s) else
    match Jc s k off new with
    | some s' => some (.int .i64 n, s')
    | none => none
 | _, _ => none
def T3 (size : Nat) (a v : Value) (s : DS) : Option DS :=
 PV.rec (motive := fun _ => Option DS) none (fun k off => Bool.rec (motive := fun _ => Option DS) none (Bool.rec (motive := fun _ => Option DS) none (Jc s k off v.cells.toList) (Fs v.cells.toList)) (Nat.beq (QS v.cells.toList) size)) (asP a)
theorem T2 (size : Nat) (a v : Value) (s : DS) : T3 size a v s = Qh size a v s := by
 simp only [T3, W9, Qd, Q7, Yo, Xm, Qh]
 cases a with
 | pointer p =>
  cases p with
  | none => rfl
  | some ad =>
   obtain ⟨k, off, sp⟩ := ad
   cases sp with
   | some z => rfl
   | none => dsimp only; cases Nat.beq v.cells.toList.length size <;> cases zm v.cells.toList <;> rfl
 | _ => rfl
def xop (o : DOp) : XOp :=
 match o with
 | .mv x => lt1 x fun f => .tot f
 | .bin op x y => Bf.rec (fun g => lt1 x fun f => lt1 y fun h => .val fun t _ => g (f t) (h t)) (Rc op)
 | .eq neg (.one .int) x y => lt1 x fun f => lt1 y fun h => .val fun t _ => CC neg (f t) (h t)
 | .eq neg (.one .ptr) x y => lt1 x fun f => lt1 y fun h => .val fun t _ => S9 neg (f t) (h t)
 | .eq neg (.one k) x y => lt1 x fun f => lt1 y fun h => .val fun t _ => Jl neg k (f t) (h t)
 | .un .not x => lt1 x fun f => .val fun t _ => Cv (f t)
 | .pick c a b => lt1 c fun f => lt1 a fun g => lt1 b fun h => .val fun t _ => GP (f t) (g t) (h t)
 | .cvInt k x => lt1 x fun f => .val fun t _ => KZ k (f t)
 | .nilck x => lt1 x fun f => .val fun t _ => Cg (f t)
 | .alloc z => .neu fun _ => .cells (.list z) false
 | .box x => lt1 x fun f => .neu fun t => .cells (.list (f t).cells.toList) false
 | .build z parts => .val fun t _ => FA z parts (evX t)
 | .bslice n size z parts => .act fun _ t s => Jm n size z parts (evX t) s
 | .ld none a => lt1 a fun f => .val fun t s => xld (f t) s
 | .ld (some n) a => lt1 a fun f => .val fun t s => S7 n (f t) s
 | .st 1 a x => lt1 a fun f => lt1 x fun g => .eff fun t s => RN (f t) (g t) s
 | .st size a x => lt1 a fun f => lt1 x fun g => .eff fun t s => T3 size (f t) (g t) s
 | .mkf f first captured => La.rec (fun g => La.rec (fun h => .tot fun t => .func (.func f) ⟨g t⟩ ⟨h t⟩) (la captured)) (la first)
 | .mkslice bytes z l c => lt1 l fun f => lt1 c fun g => .act fun _ t s => Qi bytes z (f t) (g t) s
 | .slL size x lo hi mx => lt1 x fun f => .val fun t _ => S5 size (f t) (lo.map (evX t)) (hi.map (evX t)) (mx.map (evX t))
 | .slA n size x lo hi mx => lt1 x fun f => .val fun t _ => S6 n size (f t) (lo.map (evX t)) (hi.map (evX t)) (mx.map (evX t))
 | .fadr off x => lt1 x fun f => .val fun t _ => GR off (f t)
 | .fld off agg x => lt1 x fun f => .val fun t _ => Pr off agg (f t)
 | .ixA n size x i => lt1 x fun f => lt1 i fun g => .val fun t _ => Cz n size (f t) (g t)
 | .ixL size x i => lt1 x fun f => lt1 i fun g => .val fun t _ => Cx size (f t) (g t)
 | .idxA n size agg x i => lt1 x fun f => lt1 i fun g => .val fun t _ => R0 n size agg (f t) (g t)
 | .idxS x i => lt1 x fun f => lt1 i fun g => .val fun t _ => RZ (f t) (g t)
 | .ext x i => lt1 x fun f => .val fun t _ => CB i (f t)
 | .blenL x => lt1 x fun f => .val fun t _ => GQ (f t)
 | .blenS x => lt1 x fun f => .val fun t _ => RY (f t)
 | .cvToStr x => lt1 x fun f => .val fun t s => Fz (f t) s
 | .bapp bytes size x y => lt1 x fun f => lt1 y fun g => .act fun _ t s => GT bytes size (f t) (g t) s
 | .bcopy size x y => lt1 x fun f => lt1 y fun g => .act fun _ t s => K0 size (f t) (g t) s
 | .call f args => lt1 f fun g => La.rec (fun h => .act fun call t s => call (g t) (h t) s) (la args)
 | o => .act fun call t s => dop call (ev t) s o
end
end Go.Dx
set_option linter.unusedVariables false
set_option linter.unusedSimpArgs false
set_option linter.unusedSectionVars false
namespace Go.Dx
open Go
noncomputable section
variable (ρ : Operand → Value)
theorem Cu (x : Operand) : Cv (ρ x) = zc ρ (.un .not x) := by
 simp only [Cv, Q6, zc]
 generalize ρ x = A
 cases A with
 | bool b => cases b <;> rfl
 | _ => rfl
theorem DC (c a b : Operand) : GP (ρ c) (ρ a) (ρ b) = zc ρ (.pick c a b) := by
 simp only [GP, Q6, zc]
 generalize ρ c = A
 cases A with
 | bool b => cases b <;> rfl
 | _ => rfl
theorem GS (k : IntKind) (x : Operand) : KZ k (ρ x) = zc ρ (.cvInt k x) := by
 simp only [KZ, Xn, zc]
 generalize ρ x = A
 cases A with
 | int j a =>
  cases a with
  | ofNat m => show some (Value.int k (QT k m)) = _; rw [YP]
  | negSucc m => rfl
 | _ => rfl
theorem Cf (x : Operand) : Cg (ρ x) = zc ρ (.nilck x) := by
 simp only [Cg, zc]
 generalize ρ x = A
 cases A with
 | pointer p => cases p <;> rfl
 | func g a b => cases g <;> rfl
 | _ => rfl
theorem DE (off : Nat) (x : Operand) : GR off (ρ x) = zc ρ (.fadr off x) := by
 simp only [GR, W9, zc]
 generalize ρ x = A
 cases A with
 | pointer p =>
  cases p with
  | none => rfl
  | some ad =>
   obtain ⟨k, o, sp⟩ := ad
   cases sp <;> rfl
 | _ => rfl
theorem SG {α : Type} (c : Bool) (a b : α) : _root_.cond c a b = if c = true then a else b := by cases c <;> rfl
theorem Cy (n size : Nat) (x i : Operand) : Cz n size (ρ x) (ρ i) = zc ρ (.ixA n size x i) := by
 simp only [Cz, W9, TB, zc, Xm]
 generalize ρ x = A
 cases A with
 | pointer p =>
  cases p with
  | none => rfl
  | some ad =>
   obtain ⟨k, o, sp⟩ := ad
   cases sp with
   | some z => rfl
   | none => dsimp only; cases zI (ρ i) <;> rfl
 | _ => rfl
theorem Cw (size : Nat) (x i : Operand) : Cx size (ρ x) (ρ i) = zc ρ (.ixL size x i) := by
 simp only [Cx, F9, TB, zc, Xm]
 generalize ρ x = A
 cases A with
 | slice p len cap =>
  cases p with
  | none => rfl
  | some ad =>
   obtain ⟨k, o, sp⟩ := ad
   dsimp only; cases zI (ρ i) <;> rfl
 | _ => rfl
theorem DD (x : Operand) : GQ (ρ x) = zc ρ (.blenL x) := by
 simp only [GQ, F9, zc]
 generalize ρ x = A
 cases A <;> rfl
theorem CA (x : Operand) (i : Nat) : CB i (ρ x) = zc ρ (.ext x i) := by
 simp only [CB, SJ, zc, K5]
 generalize ρ x = A
 cases A <;> rfl
theorem SE (k : SK) (x y : Value) : Ya 5000 (.one k) x y = zY k x y := by
 show Ya (4999 + 1) (.one k) x y = _
 simp only [Ya]
theorem Jk (neg : Bool) (k : SK) (x y : Operand) : Jl neg k (ρ x) (ρ y) = zc ρ (.eq neg (.one k) x y) := by
 simp only [Jl, zc, SE]
 cases zY k (ρ x) (ρ y) with
 | none => rfl
 | some b => cases neg <;> cases b <;> rfl
theorem DG (neg : Bool) (x y : Value) : CC neg x y = Jl neg .int x y := by
 simp only [CC, Jl, Xn]
 cases x with
 | int k a =>
  cases y with
  | int k' b =>
   simp only [zY, Kk, FU, FT]
   by_cases e : k = k'
   · subst e
     simp only [decide_true, if_true]
     cases neg with
     | false => rfl
     | true => show zn .neq k a b = some (.bool (Bool.rec true false (decide (a = b)))); simp only [zn]; cases decide (a = b) <;> rfl
   · simp only [decide_eq_false e, if_neg e]
  | _ => rfl
 | _ => rfl
theorem DF (neg : Bool) (x y : Value) : S9 neg x y = Jl neg .ptr x y := by
 cases x with
 | pointer a =>
  cases y with
  | pointer b =>
   cases a with
   | none => cases b <;> cases neg <;> rfl
   | some a => cases b with
    | none => cases neg <;> rfl
    | some b => rfl
  | _ => first | rfl | (cases a with | none => rfl | some a => rfl)
 | _ => rfl
theorem KY (s : DS) (size : Nat) (a x : Operand) : (Option.rec (motive := fun _ => Option (Value × DS)) none (fun s' => some (zl, s')) (Qh size (ρ a) (ρ x) s)) = zf ρ s (.st size a x) := by
 simp only [Qh, zf]
 generalize ρ a = A
 cases A with
 | pointer p =>
  cases p with
  | none => rfl
  | some ad =>
   obtain ⟨k, o, sp⟩ := ad
   cases sp with
   | some z => rfl
   | none =>
    dsimp only
    split
    · cases s.write k o (ρ x).cells.toList <;> rfl
    · rfl
 | _ => rfl
theorem GJ (o : DOp) (call : zg) (t : PT Value) (s : DS) : (xop o).go call t s = dop call (ev t) s o := by
 have val : ∀ (o : DOp) (z : Option Value), o.cls = .pure → z = zc (ev t) o → (Option.rec (motive := fun _ => Option (Value × DS)) none (fun v => some (v, s)) z) = dop call (ev t) s o := by
  intro o z hc hz
  subst hz
  unfold dop
  rw [hc]
  cases zc (ev t) o <;> rfl
 have rdv : ∀ (o : DOp) (z : Option Value), o.cls = .read → z = zi (ev t) s o → (Option.rec (motive := fun _ => Option (Value × DS)) none (fun v => some (v, s)) z) = dop call (ev t) s o := by
  intro o z hc hz
  subst hz
  unfold dop
  rw [hc]
  cases zi (ev t) s o <;> rfl
 cases o with
 | mv x => simp only [xop, zP]; rfl
 | bin op x y => simp only [xop, zP, CP]; exact val (.bin op x y) _ rfl rfl
 | eq neg e x y =>
  cases e with
  | one k =>
   cases k <;> simp only [xop, zP]
   case int => exact val (.eq neg (.one .int) x y) _ rfl ((DG neg _ _).trans (Jk _ neg .int x y))
   case ptr => exact val (.eq neg (.one .ptr) x y) _ rfl ((DF neg _ _).trans (Jk _ neg .ptr x y))
   all_goals exact val (.eq neg (.one _) x y) _ rfl (Jk _ neg _ x y)
  | struct fs => rfl
  | arr n z e => rfl
 | un op x =>
  cases op <;> first
   | rfl
   | (simp only [xop, zP]; exact val (.un .not x) _ rfl (Cu _ x))
 | pick c a b => simp only [xop, zP]; exact val (.pick c a b) _ rfl (DC _ c a b)
 | cvInt k x => simp only [xop, zP]; exact val (.cvInt k x) _ rfl (GS _ k x)
 | nilck x => simp only [xop, zP]; exact val (.nilck x) _ rfl (Cf _ x)
 | alloc z => show some (Value.pointer (some ⟨s.next, 0, none⟩), QR s (.cells (.list z) false)) = _; rw [Y9]; rfl
 | box x => simp only [xop, zP]; show some (Value.pointer (some ⟨s.next, 0, none⟩), QR s (.cells (.list (ev t x).cells.toList) false)) = _; rw [Y9]; rfl
 | build z parts => exact val (.build z parts) _ rfl (by simp only [FA, Kg, Vd, zc]; rfl)
 | ld agg a =>
  cases agg with
  | none => simp only [xop, zP]; exact rdv (.ld none a) _ rfl (RP _ s a)
  | some n => simp only [xop, zP]; exact rdv (.ld (some n) a) _ rfl (by simp only [S7, Xt, zi]; rfl)
 | st size a x =>
  by_cases h : size = 1
  · subst h
    simp only [xop, zP]
    refine Eq.trans ?_ (KY (ev t) s 1 a x)
    rw [← TU]
    rfl
  · have : xop (.st size a x) = lt1 a fun f => lt1 x fun g => .eff fun t s => T3 size (f t) (g t) s := by
     unfold xop
     split <;> first | rfl | contradiction | (rename_i heq; cases heq; first | rfl | exact absurd rfl h) | skip
     all_goals simp_all
    rw [this]
    simp only [zP, T2]
    exact KY (ev t) s size a x
 | mkf f first captured => simp only [xop, CY]; rfl
 | slL size x lo hi mx => simp only [xop, zP]; exact val (.slL size x lo hi mx) _ rfl (by simp only [S5, zc, Option.isSome_map, Vd]; generalize ev t x = A; cases A <;> rfl)
 | slA n size x lo hi mx => simp only [xop, zP]; exact val (.slA n size x lo hi mx) _ rfl (by simp only [S6, zc, Vd]; rfl)
 | fadr off x => simp only [xop, zP]; exact val (.fadr off x) _ rfl (DE _ off x)
 | fld off agg x => simp only [xop, zP]; exact val (.fld off agg x) _ rfl rfl
 | ixA n size x i => simp only [xop, zP]; exact val (.ixA n size x i) _ rfl (Cy _ n size x i)
 | ixL size x i => simp only [xop, zP]; exact val (.ixL size x i) _ rfl (Cw _ size x i)
 | idxA n size agg x i => simp only [xop, zP]; exact val (.idxA n size agg x i) _ rfl rfl
 | idxS x i => simp only [xop, zP]; exact val (.idxS x i) _ rfl rfl
 | ext x i => simp only [xop, zP]; exact val (.ext x i) _ rfl (CA _ x i)
 | blenL x => simp only [xop, zP]; exact val (.blenL x) _ rfl (DD _ x)
 | blenS x => simp only [xop, zP]; exact val (.blenS x) _ rfl rfl
 | cvToStr x => simp only [xop, zP]; exact rdv (.cvToStr x) _ rfl (by simp only [Fz, zi, Xt]; rfl)
 | bslice n size z parts => show Jm n size z parts (evX t) s = zx (ev t) s (.bslice n size z parts); simp only [Jm, zx, Kg, Vd, Y9]; rfl
 | mkslice bytes z l c => simp only [xop, zP]; show Qi bytes z (ev t l) (ev t c) s = zx (ev t) s (.mkslice bytes z l c); simp only [Qi, zx, Y9]; rfl
 | bapp bytes size x y => simp only [xop, zP]; show GT bytes size (ev t x) (ev t y) s = zf (ev t) s (.bapp bytes size x y); simp only [GT, zf, Y9, Fv, Xt, Qd, JF, Vr, Q7, Yo, Da]; rfl
 | bcopy size x y => simp only [xop, zP]; show K0 size (ev t x) (ev t y) s = zf (ev t) s (.bcopy size x y); simp only [K0, zf, Y9, Fv, Xt, Qd, Q7, Yo]; rfl
 | call f args => simp only [xop, zP, CY]; rfl
 | _ => rfl
end
end Go.Dx
