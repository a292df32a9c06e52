/- A part. -/
import Derived.Test.YthmgnfeljhdioaaGreatDxIns
set_option linter.unusedVariables false
set_option linter.unusedSimpArgs false
set_option linter.unusedSectionVars false
namespace Go.Dx
open Go
noncomputable section
inductive S8 (α : Type) where
 | mk (f : V8 α → α)
inductive U8 (α : Type) where
 | mk (f : (α → α) → V8 α → V8 α)
def QX {α : Type} (i : Nat) : S8 α :=
 match i with
 | 0 => .mk (V8.rec fun a _ _ _ _ _ _ _ => a)
 | 1 => .mk (V8.rec fun _ a _ _ _ _ _ _ => a)
 | 2 => .mk (V8.rec fun _ _ a _ _ _ _ _ => a)
 | 3 => .mk (V8.rec fun _ _ _ a _ _ _ _ => a)
 | 4 => .mk (V8.rec fun _ _ _ _ a _ _ _ => a)
 | 5 => .mk (V8.rec fun _ _ _ _ _ a _ _ => a)
 | 6 => .mk (V8.rec fun _ _ _ _ _ _ a _ => a)
 | _ => .mk (V8.rec fun _ _ _ _ _ _ _ a => a)
def QW {α : Type} (i : Nat) : U8 α :=
 match i with
 | 0 => .mk (fun g => V8.rec fun a b c d e f h k => .mk (g a) b c d e f h k)
 | 1 => .mk (fun g => V8.rec fun a b c d e f h k => .mk a (g b) c d e f h k)
 | 2 => .mk (fun g => V8.rec fun a b c d e f h k => .mk a b (g c) d e f h k)
 | 3 => .mk (fun g => V8.rec fun a b c d e f h k => .mk a b c (g d) e f h k)
 | 4 => .mk (fun g => V8.rec fun a b c d e f h k => .mk a b c d (g e) f h k)
 | 5 => .mk (fun g => V8.rec fun a b c d e f h k => .mk a b c d e (g f) h k)
 | 6 => .mk (fun g => V8.rec fun a b c d e f h k => .mk a b c d e f (g h) k)
 | _ => .mk (fun g => V8.rec fun a b c d e f h k => .mk a b c d e f h (g k))
theorem V5 {α : Type} (i : Nat) : (QX i : S8 α) = .mk (V8.get i) := by
 unfold QX
 split <;> (refine congrArg S8.mk (funext fun v => ?_); cases v; unfold V8.get; first | rfl | (split <;> first | rfl | contradiction | (rename_i hq _ _ _ _ _ _ _; cases hq; rfl)))
theorem V4 {α : Type} (i : Nat) : (QW i : U8 α) = .mk (V8.upd i) := by
 unfold QW
 split <;> (refine congrArg U8.mk (funext fun g => funext fun v => ?_); cases v; unfold V8.upd; first | rfl | (split <;> first | rfl | contradiction | (rename_i hq _ _ _ _ _ _ _; cases hq; rfl)))
inductive Rdx (α : Type) where
 | mk (f : PT α → Option α)
inductive Wr (α : Type) where
 | mk (f : Option α → PT α → PT α)
def rdx {α : Type} (k : Nat) : Rdx α :=
 _root_.cond (Nat.blt k 64)
  (S8.rec (fun f => S8.rec (fun g => Rdx.mk (PT.rec fun lo _ _ _ => g (f lo))) (QX (Nat.mod k 8))) (QX (Nat.div k 8)))
  (_root_.cond (Nat.blt k 4160)
   (S8.rec (fun f => S8.rec (fun g => S8.rec (fun h => S8.rec (fun i => Rdx.mk (PT.rec fun _ mid _ _ => i (h (g (f mid))))) (QX (Nat.mod (Nat.sub k 64) 8)))
    (QX (Nat.mod (Nat.div (Nat.sub k 64) 8) 8))) (QX (Nat.mod (Nat.div (Nat.sub k 64) 64) 8))) (QX (Nat.div (Nat.sub k 64) 512)))
   (Rdx.mk fun t => t.get k))
def wrs {α : Type} (k : Nat) : Wr α :=
 _root_.cond (Nat.blt k 64)
  (U8.rec (fun f => U8.rec (fun g => Wr.mk (fun x => PT.rec fun lo mid far big => .mk (f (g fun _ => x) lo) mid far big)) (QW (Nat.mod k 8))) (QW (Nat.div k 8)))
  (_root_.cond (Nat.blt k 4160)
   (U8.rec (fun f => U8.rec (fun g => U8.rec (fun h => U8.rec (fun i => Wr.mk (fun x => PT.rec fun lo mid far big => .mk lo (f (g (h (i fun _ => x))) mid) far big)) (QW (Nat.mod (Nat.sub k 64) 8)))
    (QW (Nat.mod (Nat.div (Nat.sub k 64) 8) 8))) (QW (Nat.mod (Nat.div (Nat.sub k 64) 64) 8))) (QW (Nat.div (Nat.sub k 64) 512)))
   (Wr.mk fun x t => t.put k x))
theorem Zl {a b : Nat} (h : a < b) : Nat.blt a b = true := (zQ a b).2 h
theorem Yb {a b : Nat} (h : ¬ a < b) : Nat.blt a b = false := by
 cases hb : Nat.blt a b with
 | false => rfl
 | true => exact absurd ((zQ a b).1 hb) h
theorem JO {α : Type} (k : Nat) : (rdx k : Rdx α) = .mk fun t => t.get k := by
 unfold rdx
 by_cases h1 : k < 64
 · rw [Zl h1]
   simp only [cond_true, V5]
   refine congrArg Rdx.mk (funext fun t => ?_)
   cases t
   simp only [PT.get, h1, if_true]
   rfl
 · rw [Yb h1]
   by_cases h2 : k < 4160
   · rw [Zl h2]
     simp only [cond_true, cond_false, V5]
     refine congrArg Rdx.mk (funext fun t => ?_)
     cases t
     simp only [PT.get, h1, h2, if_true, if_false]
     rfl
   · rw [Yb h2]
     rfl
theorem QC {α : Type} (k : Nat) : (wrs k : Wr α) = .mk fun x t => t.put k x := by
 unfold wrs
 by_cases h1 : k < 64
 · rw [Zl h1]
   simp only [cond_true, V4]
   refine congrArg Wr.mk (funext fun x => funext fun t => ?_)
   cases t
   simp only [PT.put, h1, if_true]
   rfl
 · rw [Yb h1]
   by_cases h2 : k < 4160
   · rw [Zl h2]
     simp only [cond_true, cond_false, V4]
     refine congrArg Wr.mk (funext fun x => funext fun t => ?_)
     cases t
     simp only [PT.put, h1, h2, if_true, if_false]
     rfl
   · rw [Yb h2]
     rfl
inductive IV where
 | no
 | mk (k : IntKind) (n : Int)
inductive BV where
 | no
 | mk (b : Bool)
inductive PV where
 | no
 | mk (k off : Nat)
inductive AV where
 | no
 | mk (a : Option Addr)
inductive LV where
 | no
 | mk (a : Option Addr) (n c : Nat)
inductive FV where
 | no
 | mk (fn : Fn) (first captured : Array Value)
inductive TV where
 | no
 | mk (vs : List Value)
def asB : Value → BV := Value.rec (motive_1 := fun _ => BV) (motive_2 := fun _ => PUnit) (motive_3 := fun _ => PUnit) BV.mk (fun _ _ => .no) (fun _ _ => .no) (fun _ _ _ => .no) (fun _ => .no) (fun _ => .no) (fun _ _ _ => .no) (fun _ => .no) (fun _ => .no) (fun _ _ _ _ _ => .no) .no (fun _ _ _ => .no) .no (fun _ _ => .no) (fun _ _ => .no) (fun _ _ => ⟨⟩) ⟨⟩ (fun _ _ _ _ => ⟨⟩)
def asI : Value → IV := Value.rec (motive_1 := fun _ => IV) (motive_2 := fun _ => PUnit) (motive_3 := fun _ => PUnit) (fun _ => .no) IV.mk (fun _ _ => .no) (fun _ _ _ => .no) (fun _ => .no) (fun _ => .no) (fun _ _ _ => .no) (fun _ => .no) (fun _ => .no) (fun _ _ _ _ _ => .no) .no (fun _ _ _ => .no) .no (fun _ _ => .no) (fun _ _ => .no) (fun _ _ => ⟨⟩) ⟨⟩ (fun _ _ _ _ => ⟨⟩)
def asP : Value → PV := Value.rec (motive_1 := fun _ => PV) (motive_2 := fun _ => PUnit) (motive_3 := fun _ => PUnit) (fun _ => .no) (fun _ _ => .no) (fun _ _ => .no) (fun _ _ _ => .no) (fun _ => .no) (Option.rec .no (Addr.rec fun k off sp => Option.rec (PV.mk k off) (fun _ => .no) sp)) (fun _ _ _ => .no) (fun _ => .no) (fun _ => .no) (fun _ _ _ _ _ => .no) .no (fun _ _ _ => .no) .no (fun _ _ => .no) (fun _ _ => .no) (fun _ _ => ⟨⟩) ⟨⟩ (fun _ _ _ _ => ⟨⟩)
def asA : Value → AV := Value.rec (motive_1 := fun _ => AV) (motive_2 := fun _ => PUnit) (motive_3 := fun _ => PUnit) (fun _ => .no) (fun _ _ => .no) (fun _ _ => .no) (fun _ _ _ => .no) (fun _ => .no) AV.mk (fun _ _ _ => .no) (fun _ => .no) (fun _ => .no) (fun _ _ _ _ _ => .no) .no (fun _ _ _ => .no) .no (fun _ _ => .no) (fun _ _ => .no) (fun _ _ => ⟨⟩) ⟨⟩ (fun _ _ _ _ => ⟨⟩)
def asL : Value → LV := Value.rec (motive_1 := fun _ => LV) (motive_2 := fun _ => PUnit) (motive_3 := fun _ => PUnit) (fun _ => .no) (fun _ _ => .no) (fun _ _ => .no) (fun _ _ _ => .no) (fun _ => .no) (fun _ => .no) LV.mk (fun _ => .no) (fun _ => .no) (fun _ _ _ _ _ => .no) .no (fun _ _ _ => .no) .no (fun _ _ => .no) (fun _ _ => .no) (fun _ _ => ⟨⟩) ⟨⟩ (fun _ _ _ _ => ⟨⟩)
def asF : Value → FV := Value.rec (motive_1 := fun _ => FV) (motive_2 := fun _ => PUnit) (motive_3 := fun _ => PUnit) (fun _ => .no) (fun _ _ => .no) (fun _ _ => .no) (fun _ _ _ => .no) (fun _ => .no) (fun _ => .no) (fun _ _ _ => .no) (fun _ => .no) (fun _ => .no) (fun g a b _ _ => FV.mk g a b) .no (fun _ _ _ => .no) .no (fun _ _ => .no) (fun _ _ => .no) (fun _ _ => ⟨⟩) ⟨⟩ (fun _ _ _ _ => ⟨⟩)
def asT : Value → TV := Value.rec (motive_1 := fun _ => TV) (motive_2 := fun _ => PUnit) (motive_3 := fun _ => PUnit) (fun _ => .no) (fun _ _ => .no) (fun _ _ => .no) (fun _ _ _ => .no) (fun _ => .no) (fun _ => .no) (fun _ _ _ => .no) (fun _ => .no) (fun _ => .no) (fun _ _ _ _ _ => .no) .no (fun _ _ _ => .no) .no (fun _ _ => .no) (fun vs _ => TV.mk vs.toList) (fun _ _ => ⟨⟩) ⟨⟩ (fun _ _ _ _ => ⟨⟩)
theorem Qw {β : Type} (z : β) (f : Nat → Nat → β) (v : Value) : PV.rec (motive := fun _ => β) z f (asP v) = (match v with | .pointer (some ⟨k, off, none⟩) => f k off | _ => z) := by
 cases v with
 | pointer a =>
  cases a with
  | none => rfl
  | some a =>
   obtain ⟨k, off, sp⟩ := a
   cases sp <;> rfl
 | _ => rfl
theorem XU {β : Type} (z : β) (f : IntKind → Int → β) (v : Value) : IV.rec (motive := fun _ => β) z f (asI v) = (match v with | .int k n => f k n | _ => z) := by cases v <;> rfl
theorem Jw {β : Type} (z : β) (f : Bool → β) (v : Value) : BV.rec (motive := fun _ => β) z f (asB v) = (match v with | .bool b => f b | _ => z) := by cases v <;> rfl
theorem DR {β : Type} (z : β) (f : Option Addr → Nat → Nat → β) (v : Value) : LV.rec (motive := fun _ => β) z f (asL v) = (match v with | .slice a b c => f a b c | _ => z) := by cases v <;> rfl
theorem RU {β : Type} (z : β) (f : Fn → Array Value → Array Value → β) (v : Value) : FV.rec (motive := fun _ => β) z f (asF v) = (match v with | .func g a b => f g a b | _ => z) := by cases v <;> rfl
theorem RR {β : Type} (z : β) (f : List Value → β) (v : Value) : TV.rec (motive := fun _ => β) z f (asT v) = (match v with | .tuple vs => f vs.toList | _ => z) := by cases v <;> rfl
theorem XT {α : Type} (c : Bool) (a b : α) : Bool.rec (motive := fun _ => α) b a c = if c = true then a else b := by cases c <;> rfl
def kcd : IntKind → Nat := IntKind.rec (motive := fun _ => Nat) 0 1 2 3 4 5 6 7
def Nw (a b : IntKind) : Bool := Nat.beq (kcd a) (kcd b)
theorem Tf (a b : IntKind) : Nw a b = decide (a = b) := by cases a <;> cases b <;> rfl
def Gc : IntKind → Nat := IntKind.rec (motive := fun _ => Nat) 256 65536 4294967296 18446744073709551616 256 65536 4294967296 18446744073709551616
def TI : IntKind → Nat := IntKind.rec (motive := fun _ => Nat) 128 32768 2147483648 9223372036854775808 256 65536 4294967296 18446744073709551616
theorem Rq (k : IntKind) : Gc k = zz k := by cases k <;> rfl
def Jl (k : IntKind) (m : Nat) : Int := Bool.rec (motive := fun _ => Int) (zw k (Int.ofNat m)) (Int.ofNat m) (Nat.ble (Nat.succ m) (TI k))
theorem Xh (k : IntKind) (m : Nat) : Jl k m = zw k (.ofNat m) := by
 show Bool.rec (motive := fun _ => Int) (zw k (Int.ofNat m)) (Int.ofNat m) (Nat.blt m (TI k)) = _
 by_cases h : m < TI k
 · rw [Zl h]
   show Int.ofNat m = _
   have hl : low k (.ofNat m) = m := by
    cases k <;> simp only [TI] at h <;> exact Nat.mod_eq_of_lt (by simp only [zz]; omega)
   have hb : YV k = true → Nat.ble (W3 k) m = false := by
    intro hs
    cases k <;> simp only [TI] at h <;> first | (cases hs; done) | exact (by rw [Bool.eq_false_iff]; intro hb; have := Nat.le_of_ble_eq_true hb; simp only [W3] at this; omega)
   unfold zw
   simp only [hl]
   cases hs : YV k with
   | false => rfl
   | true => rw [hb hs]; rfl
 · rw [Yb h]
inductive Bf where
 | mk (f : Value → Value → Option Value)
def two (op : BinOp) (F : IntKind → Int → Int → Option Value) : Bf :=
 .mk fun x y => IV.rec (motive := fun _ => Option Value) (zp op x y) (fun k a => IV.rec (motive := fun _ => Option Value) none (fun k' b => Bool.rec (motive := fun _ => Option Value) none (F k a b) (Nat.beq (kcd k) (kcd k'))) (asI y)) (asI x)
def NN (k : IntKind) (a b : Int) : Option Value := Int.rec (motive := fun _ => Option Value) (fun m => Int.rec (motive := fun _ => Option Value) (fun n => some (.int k (Jl k (Nat.add m n)))) (fun _ => zl .add k a b) b) (fun _ => zl .add k a b) a
def P7 (k : IntKind) (a b : Int) : Option Value := Int.rec (motive := fun _ => Option Value) (fun m => Int.rec (motive := fun _ => Option Value) (fun n => Bool.rec (motive := fun _ => Option Value) (zl .sub k a b) (some (.int k (Jl k (Nat.sub m n)))) (Nat.ble n m)) (fun _ => zl .sub k a b) b) (fun _ => zl .sub k a b) a
def NH (k : IntKind) (a b : Int) : Option Value := Int.rec (motive := fun _ => Option Value) (fun m => Int.rec (motive := fun _ => Option Value) (fun n => some (.int k (Jl k (Nat.mul m n)))) (fun _ => zl .mul k a b) b) (fun _ => zl .mul k a b) a
def NM (k : IntKind) (a b : Int) : Option Value := Int.rec (motive := fun _ => Option Value) (fun m => Int.rec (motive := fun _ => Option Value) (fun n => some (.int k (Jl k (Nat.land (Nat.mod m (Gc k)) (Nat.mod n (Gc k)))))) (fun _ => zl .and k a b) b) (fun _ => zl .and k a b) a
def fOr (k : IntKind) (a b : Int) : Option Value := Int.rec (motive := fun _ => Option Value) (fun m => Int.rec (motive := fun _ => Option Value) (fun n => some (.int k (Jl k (Nat.lor (Nat.mod m (Gc k)) (Nat.mod n (Gc k)))))) (fun _ => zl .or k a b) b) (fun _ => zl .or k a b) a
def NE (k : IntKind) (a b : Int) : Option Value := Int.rec (motive := fun _ => Option Value) (fun m => Int.rec (motive := fun _ => Option Value) (fun n => some (.int k (Jl k (Nat.xor (Nat.mod m (Gc k)) (Nat.mod n (Gc k)))))) (fun _ => zl .xor k a b) b) (fun _ => zl .xor k a b) a
def Na (k : IntKind) (a b : Int) : Option Value := Int.rec (motive := fun _ => Option Value) (fun m => Int.rec (motive := fun _ => Option Value) (fun n => some (.bool (Nat.beq m n))) (fun _ => zl .eql k a b) b) (fun _ => zl .eql k a b) a
def P9 (k : IntKind) (a b : Int) : Option Value := Int.rec (motive := fun _ => Option Value) (fun m => Int.rec (motive := fun _ => Option Value) (fun n => some (.bool (Bool.rec (motive := fun _ => Bool) true false (Nat.beq m n)))) (fun _ => zl .neq k a b) b) (fun _ => zl .neq k a b) a
def NI (k : IntKind) (a b : Int) : Option Value := Int.rec (motive := fun _ => Option Value) (fun m => Int.rec (motive := fun _ => Option Value) (fun n => some (.bool (Nat.ble (Nat.succ m) n))) (fun _ => zl .lss k a b) b) (fun _ => zl .lss k a b) a
def NJ (k : IntKind) (a b : Int) : Option Value := Int.rec (motive := fun _ => Option Value) (fun m => Int.rec (motive := fun _ => Option Value) (fun n => some (.bool (Nat.ble m n))) (fun _ => zl .leq k a b) b) (fun _ => zl .leq k a b) a
def NK (k : IntKind) (a b : Int) : Option Value := Int.rec (motive := fun _ => Option Value) (fun m => Int.rec (motive := fun _ => Option Value) (fun n => some (.bool (Nat.ble (Nat.succ n) m))) (fun _ => zl .gtr k a b) b) (fun _ => zl .gtr k a b) a
def NL (k : IntKind) (a b : Int) : Option Value := Int.rec (motive := fun _ => Option Value) (fun m => Int.rec (motive := fun _ => Option Value) (fun n => some (.bool (Nat.ble n m))) (fun _ => zl .geq k a b) b) (fun _ => zl .geq k a b) a
def Sq : IntKind → Nat := IntKind.rec (motive := fun _ => Nat) 8 16 32 64 8 16 32 64
theorem Sp (k : IntKind) : Sq k = bitsOf k := by cases k <;> rfl
def Rr (k : IntKind) (n : Nat) : Nat := Bool.rec (motive := fun _ => Nat) n (Sq k) (Nat.ble (Sq k) n)
def NG (k : IntKind) (a b : Int) : Option Value := Int.rec (motive := fun _ => Option Value) (fun m => Int.rec (motive := fun _ => Option Value) (fun n => some (.int k (Jl k (Nat.mul m (Nat.pow 2 (Rr k n)))))) (fun _ => ZD .shl k a b) b) (fun _ => ZD .shl k a b) a
def NF (k : IntKind) (a b : Int) : Option Value := Int.rec (motive := fun _ => Option Value) (fun m => Int.rec (motive := fun _ => Option Value) (fun n => some (.int k (Int.ofNat (Nat.div m (Nat.pow 2 (Rr k n)))))) (fun _ => ZD .shr k a b) b) (fun _ => ZD .shr k a b) a
def shf (op : BinOp) (F : IntKind → Int → Int → Option Value) : Bf :=
 .mk fun x y => IV.rec (motive := fun _ => Option Value) (zp op x y) (fun k a => IV.rec (motive := fun _ => Option Value) (zp op x y) (fun _ b => F k a b) (asI y)) (asI x)
def Pk (op : BinOp) : Bf :=
 match op with
 | .add => two .add NN
 | .sub => two .sub P7
 | .mul => two .mul NH
 | .and => two .and NM
 | .or => two .or fOr
 | .xor => two .xor NE
 | .eql => two .eql Na
 | .neq => two .neq P9
 | .lss => two .lss NI
 | .leq => two .leq NJ
 | .gtr => two .gtr NK
 | .geq => two .geq NL
 | .shl => shf .shl NG
 | .shr => shf .shr NF
 | op => .mk (zp op)
theorem Wm (k : IntKind) (a b : Int) (op : BinOp) (g : Nat → Nat → Option Value) (h : ∀ m n, g m n = zl op k (.ofNat m) (.ofNat n)) :
 Int.rec (motive := fun _ => Option Value) (fun m => Int.rec (motive := fun _ => Option Value) (fun n => g m n) (fun _ => zl op k a b) b) (fun _ => zl op k a b) a = zl op k a b := by
 cases a with
 | ofNat m => cases b with
  | ofNat n => exact h m n
  | negSucc n => rfl
 | negSucc m => rfl
theorem Po (k : IntKind) (a b : Int) (op : BinOp) (g : Nat → Nat → Option Value) (h : ∀ m n, g m n = ZD op k (.ofNat m) (.ofNat n)) :
 Int.rec (motive := fun _ => Option Value) (fun m => Int.rec (motive := fun _ => Option Value) (fun n => g m n) (fun _ => ZD op k a b) b) (fun _ => ZD op k a b) a = ZD op k a b := by
 cases a with
 | ofNat m => cases b with
  | ofNat n => exact h m n
  | negSucc n => rfl
 | negSucc m => rfl
theorem KO (a b : IntKind) : Nat.beq (kcd a) (kcd b) = decide (a = b) := Tf a b
theorem YE {op : BinOp} {F : IntKind → Int → Int → Option Value} (h1 : op ≠ .shl) (h2 : op ≠ .shr) (h : ∀ k a b, F k a b = zl op k a b) : two op F = .mk (zp op) := by
 refine congrArg Bf.mk (funext fun x => funext fun y => ?_)
 rw [XU]
 cases x with
 | int k a =>
  simp only [XU]
  cases y with
  | int k' b =>
   simp only [h, KO, XT]
   have : zp op (.int k a) (.int k' b) = if k = k' then zl op k a b else none := by
    cases op <;> first | rfl | exact absurd rfl h1 | exact absurd rfl h2
   rw [this]
   by_cases e : k = k' <;> simp [e]
  | _ => rfl
 | _ => rfl
theorem Td {op : BinOp} {F : IntKind → Int → Int → Option Value} (h : ∀ k k' a b, F k a b = zp op (.int k a) (.int k' b)) : shf op F = .mk (zp op) := by
 refine congrArg Bf.mk (funext fun x => funext fun y => ?_)
 rw [XU]
 cases x with
 | int k a =>
  simp only [XU]
  cases y with
  | int k' b => exact h k k' a b
  | _ => rfl
 | _ => rfl
theorem Dq (k : IntKind) (n : Nat) : Rr k n = if Nat.ble (bitsOf k) n then bitsOf k else n := by
 unfold Rr
 rw [Sp, XT]
theorem KW (n : Nat) : ¬ (Int.ofNat n < 0) := by simp only [Int.ofNat_eq_natCast]; omega
theorem RL (k : IntKind) (a b : Int) : NN k a b = zl .add k a b := Wm k a b .add _ fun m n => by rw [Xh]; rfl
theorem RB (k : IntKind) (a b : Int) : P7 k a b = zl .sub k a b := by
 unfold P7
 cases a with
 | ofNat m => cases b with
  | ofNat n =>
   show Bool.rec (motive := fun _ => Option Value) (zl .sub k (.ofNat m) (.ofNat n)) (some (.int k (Jl k (Nat.sub m n)))) (Nat.ble n m) = _
   cases h : Nat.ble n m with
   | false => rfl
   | true =>
    have hle := Nat.le_of_ble_eq_true h
    have e : (Int.ofNat m - Int.ofNat n) = Int.ofNat (m - n) := by simp only [Int.ofNat_eq_natCast]; omega
    show some (Value.int k (Jl k (m - n))) = some (.int k (zw k (Int.ofNat m - Int.ofNat n)))
    rw [Xh, e]
  | negSucc n => rfl
 | negSucc m => rfl
theorem RE (k : IntKind) (a b : Int) : NH k a b = zl .mul k a b := Wm k a b .mul _ fun m n => by rw [Xh]; rfl
theorem WB (k : IntKind) (m : Nat) : low k (.ofNat m) = Nat.mod m (Gc k) := by rw [Rq]; rfl
theorem RK (k : IntKind) (a b : Int) : NM k a b = zl .and k a b := Wm k a b .and _ fun m n => by rw [Xh, ← WB, ← WB]; rfl
theorem P8 (k : IntKind) (a b : Int) : fOr k a b = zl .or k a b := Wm k a b .or _ fun m n => by rw [Xh, ← WB, ← WB]; rfl
theorem RA (k : IntKind) (a b : Int) : NE k a b = zl .xor k a b := Wm k a b .xor _ fun m n => by rw [Xh, ← WB, ← WB]; rfl
theorem DQ (m n : Nat) : Nat.beq m n = decide (Int.ofNat m = Int.ofNat n) := by
 rw [Bool.eq_iff_iff, decide_eq_true_iff]
 constructor
 · intro h; rw [Nat.eq_of_beq_eq_true h]
 · intro h; cases h; exact Nat.beq_refl _
theorem DH (k : IntKind) (a b : Int) : Na k a b = zl .eql k a b := Wm k a b .eql _ fun m n => by rw [DQ]; rfl
theorem DG (k : IntKind) (a b : Int) : P9 k a b = zl .neq k a b := Wm k a b .neq _ fun m n => by
 rw [DQ]
 show some (Value.bool (Bool.rec (motive := fun _ => Bool) true false (decide (Int.ofNat m = Int.ofNat n)))) = some (.bool (!decide (Int.ofNat m = Int.ofNat n)))
 cases decide (Int.ofNat m = Int.ofNat n) <;> rfl
theorem DO (m n : Nat) : Nat.blt m n = decide (Int.ofNat m < Int.ofNat n) := by
 rw [Bool.eq_iff_iff, decide_eq_true_iff, zQ]; simp only [Int.ofNat_eq_natCast]; omega
theorem DP (m n : Nat) : Nat.ble m n = decide (Int.ofNat m ≤ Int.ofNat n) := by
 rw [Bool.eq_iff_iff, decide_eq_true_iff, Nat.ble_eq]; simp only [Int.ofNat_eq_natCast]; omega
theorem RF (k : IntKind) (a b : Int) : NI k a b = zl .lss k a b := Wm k a b .lss _ fun m n => by
 show some (Value.bool (Nat.blt m n)) = _
 rw [DO]; rfl
theorem RG (k : IntKind) (a b : Int) : NJ k a b = zl .leq k a b := Wm k a b .leq _ fun m n => by rw [DP]; rfl
theorem RI (k : IntKind) (a b : Int) : NK k a b = zl .gtr k a b := Wm k a b .gtr _ fun m n => by
 show some (Value.bool (Nat.blt n m)) = _
 rw [DO]; rfl
theorem RJ (k : IntKind) (a b : Int) : NL k a b = zl .geq k a b := Wm k a b .geq _ fun m n => by rw [DP]; rfl
theorem RD (k k' : IntKind) (a b : Int) : NG k a b = zp .shl (.int k a) (.int k' b) := Po k a b .shl _ fun m n => by
 rw [Xh, Dq]
 simp only [ZD, KW, if_false]
 rfl
theorem GE (m p : Nat) : Int.fdiv (.ofNat m) (.ofNat p) = .ofNat (m / p) := by
 cases m with
 | zero => simp [Int.fdiv]
 | succ m => rfl
theorem RC (k k' : IntKind) (a b : Int) : NF k a b = zp .shr (.int k a) (.int k' b) := Po k a b .shr _ fun m n => by
 rw [Dq]
 simp only [ZD, KW, if_false]
 exact congrArg (fun z => some (Value.int k z)) (GE _ _).symm
theorem TC (op : BinOp) : Pk op = .mk (zp op) := by
 cases op <;> first
  | rfl
  | exact YE (by simp) (by simp) RL
  | exact YE (by simp) (by simp) RB
  | exact YE (by simp) (by simp) RE
  | exact YE (by simp) (by simp) RK
  | exact YE (by simp) (by simp) P8
  | exact YE (by simp) (by simp) RA
  | exact YE (by simp) (by simp) DH
  | exact YE (by simp) (by simp) DG
  | exact YE (by simp) (by simp) RF
  | exact YE (by simp) (by simp) RG
  | exact YE (by simp) (by simp) RI
  | exact YE (by simp) (by simp) RJ
  | exact Td RD
  | exact Td RC
inductive Rd where
 | mk (f : PT Value → Value)
def orU (o : Option Value) : Value := Option.rec zr (fun v => v) o
def rd (x : Operand) : Rd := Operand.rec (motive := fun _ => Rd) (fun i => Rdx.rec (fun f => Rd.mk fun t => orU (f t)) (rdx i)) (fun v => Rd.mk fun _ => v) (fun _ => Rd.mk fun _ => zr) (fun f => Rd.mk fun _ => .func (.func f) #[] #[]) x
theorem Dj (x : Operand) : rd x = .mk fun t => ev t x := by
 cases x with
 | tmp i =>
  show Rdx.rec (motive := fun _ => Rd) (fun f => Rd.mk fun t => orU (f t)) (rdx i) = _
  rw [JO]
  refine congrArg Rd.mk (funext fun t => ?_)
  show orU (t.get i) = (t.get i).getD zr
  cases t.get i <;> rfl
 | const v => rfl
 | global g => rfl
 | func f => rfl
inductive La where
 | mk (f : PT Value → List Value)
def la (xs : List Operand) : La := List.rec (motive := fun _ => La) (La.mk fun _ => []) (fun x _ ih => Rd.rec (fun f => La.rec (fun g => La.mk fun t => f t :: g t) ih) (rd x)) xs
theorem TL : ∀ xs : List Operand, la xs = .mk fun t => xs.map (ev t)
 | [] => rfl
 | x :: xs => by
  show Rd.rec (motive := fun _ => La) (fun f => La.rec (motive := fun _ => La) (fun g => La.mk fun t => f t :: g t) (la xs)) (rd x) = _
  rw [Dj, TL xs]
  rfl
def Kb {β : Type} (f : Nat → β) (n : Nat) : β := Nat.rec (motive := fun _ => β) (f 0) (fun m _ => f (Nat.succ m)) n
theorem WG {β : Type} (f : Nat → β) (n : Nat) : Kb f n = f n := by cases n <;> rfl
def hp (s : DS) (k : Nat) : Option DObj := DS.rec (motive := fun _ => Option DObj) (fun h n v w => Bool.rec (motive := fun _ => Option DObj) none (Bool.rec (motive := fun _ => Option DObj) none (Rdx.rec (motive := fun _ => Option DObj) (fun f => f h) (rdx k)) (v k)) (Nat.ble (Nat.succ k) n)) s
theorem J3 (s : DS) (k : Nat) : hp s k = s.get k := by
 unfold hp DS.get
 rw [JO]
 show Bool.rec (motive := fun _ => Option DObj) none (Bool.rec (motive := fun _ => Option DObj) none (s.heap.get k) (s.vis k)) (Nat.blt k s.next) = _
 cases Nat.blt k s.next <;> cases s.vis k <;> rfl
inductive Nt where
 | mk (f : List Value → Option Value)
def nth (i : Nat) : Nt := Nat.rec (motive := fun _ => Nt) (Nt.mk (List.rec none fun x _ _ => some x)) (fun _ ih => Nt.rec (fun f => Nt.mk (List.rec none fun _ l _ => f l)) ih) i
theorem Vy : ∀ i : Nat, nth i = .mk fun l => getN l i
 | 0 => congrArg Nt.mk (funext fun l => by cases l <;> rfl)
 | i + 1 => by
  show Nt.rec (motive := fun _ => Nt) (fun f => Nt.mk (List.rec none fun _ l _ => f l)) (nth i) = _
  rw [Vy i]
  exact congrArg Nt.mk (funext fun l => by cases l <;> rfl)
inductive Ns where
 | mk (f : Value → List Value → List Value)
def Fz (i : Nat) : Ns := Nat.rec (motive := fun _ => Ns) (Ns.mk fun v => List.rec [] fun _ l _ => v :: l) (fun _ ih => Ns.rec (fun f => Ns.mk fun v => List.rec [] fun x l _ => x :: f v l) ih) i
theorem Vz : ∀ i : Nat, Fz i = .mk fun v l => zt l i v
 | 0 => congrArg Ns.mk (funext fun v => funext fun l => by cases l <;> rfl)
 | i + 1 => by
  show Ns.rec (motive := fun _ => Ns) (fun f => Ns.mk fun v => List.rec [] fun x l _ => x :: f v l) (Fz i) = _
  rw [Vz i]
  exact congrArg Ns.mk (funext fun v => funext fun l => by cases l <;> rfl)
def PQ (c : Cells) (i : Nat) : Option Value :=
 Cells.rec (motive := fun _ => Option Value) (fun l => Nt.rec (motive := fun _ => Option Value) (fun f => f l) (nth i)) (fun n z t => Bool.rec (motive := fun _ => Option Value) none (some (Option.rec (motive := fun _ => Value) z (fun v => v) (Rdx.rec (motive := fun _ => Option Value) (fun f => f t) (rdx i)))) (Nat.ble (Nat.succ i) n)) (fun l => Nt.rec (motive := fun _ => Option Value) (fun f => f l) (nth i)) c
theorem F6 (c : Cells) (i : Nat) : PQ c i = c.get i := by
 cases c with
 | list l => show Nt.rec (motive := fun _ => Option Value) (fun f => f l) (nth i) = _; rw [Vy]; rfl
 | str l => show Nt.rec (motive := fun _ => Option Value) (fun f => f l) (nth i) = _; rw [Vy]; rfl
 | tree n z t =>
  show Bool.rec (motive := fun _ => Option Value) none (some (Option.rec (motive := fun _ => Value) z (fun v => v) (Rdx.rec (motive := fun _ => Option Value) (fun f => f t) (rdx i)))) (Nat.blt i n) = if i < n then some ((t.get i).getD z) else none
  rw [JO]
  by_cases h : i < n
  · rw [Zl h, if_pos h]
    show some (Option.rec (motive := fun _ => Value) z (fun v => v) (t.get i)) = _
    cases t.get i <;> rfl
  · rw [Yb h, if_neg h]
def Nk (c : Cells) (i : Nat) (v : Value) : Cells :=
 Cells.rec (motive := fun _ => Cells) (fun l => .list (Ns.rec (motive := fun _ => List Value) (fun f => f v l) (Fz i))) (fun n z t => .tree n z (Bool.rec (motive := fun _ => PT Value) t (Wr.rec (motive := fun _ => PT Value) (fun w => w (some v) t) (wrs i)) (Nat.ble (Nat.succ i) n))) (fun l => .str (Ns.rec (motive := fun _ => List Value) (fun f => f v l) (Fz i))) c
theorem ST (c : Cells) (i : Nat) (v : Value) : Nk c i v = c.set i v := by
 cases c with
 | list l => show Cells.list (Ns.rec (motive := fun _ => List Value) (fun f => f v l) (Fz i)) = _; rw [Vz]; rfl
 | str l => show Cells.str (Ns.rec (motive := fun _ => List Value) (fun f => f v l) (Fz i)) = _; rw [Vz]; rfl
 | tree n z t =>
  show Cells.tree n z (Bool.rec (motive := fun _ => PT Value) t (Wr.rec (motive := fun _ => PT Value) (fun w => w (some v) t) (wrs i)) (Nat.blt i n)) = .tree n z (if i < n then t.put i (some v) else t)
  rw [QC]
  by_cases h : i < n
  · rw [Zl h, if_pos h]
  · rw [Yb h, if_neg h]
def Jj (s : DS) (o : DObj) : DS := DS.rec (motive := fun _ => DS) (fun h n v w => Kb (fun n => DS.mk (Wr.rec (motive := fun _ => PT DObj) (fun f => f (some o) h) (wrs n)) (Nat.succ n) v w) n) s
theorem Xz (s : DS) (o : DObj) : Jj s o = s.new o := by
 unfold Jj
 cases s
 simp only [WG, QC]
 rfl
inductive XOp where
 | tot (f : PT Value → Value)
 | val (f : PT Value → DS → Option Value)
 | eff (f : PT Value → DS → Option DS)
 | neu (f : PT Value → DObj)
 | act (f : zm → PT Value → DS → Option (Value × DS))
def XOp.go (o : XOp) (call : zm) (t : PT Value) (s : DS) : Option (Value × DS) :=
 XOp.rec (motive := fun _ => Option (Value × DS)) (fun f => some (f t, s)) (fun f => Option.rec none (fun v => some (v, s)) (f t s)) (fun f => Option.rec none (fun s' => some (zr, s')) (f t s))
  (fun f => some (.pointer (some ⟨s.next, 0, none⟩), Jj s (f t))) (fun f => f call t s) o
def asN (v : Value) : Option Nat := IV.rec (motive := fun _ => Option Nat) none (fun _ a => Int.rec (motive := fun _ => Option Nat) (fun n => some n) (fun _ => none) a) (asI v)
theorem Sy (v : Value) : asN v = zO v := by
 unfold asN
 rw [XU]
 cases v with
 | int k a => cases a <;> rfl
 | _ => rfl
def lt1 (x : Operand) (F : (PT Value → Value) → XOp) : XOp := Rd.rec F (rd x)
theorem zT (x : Operand) (F : (PT Value → Value) → XOp) : lt1 x F = F fun t => ev t x := by unfold lt1; rw [Dj]
def Kp {β : Type} (z : β) (f : Cells → Bool → β) (o : Option DObj) : β := Option.rec z (DObj.rec f (fun _ _ => z) (fun _ _ _ _ => z) (fun _ _ _ _ _ _ => z) z) o
theorem WK {β : Type} (z : β) (f : Cells → Bool → β) (o : Option DObj) : Kp z f o = (match o with | some (.cells c ro) => f c ro | _ => z) := by
 cases o with
 | none => rfl
 | some o => cases o <;> rfl
def xld (v : Value) (s : DS) : Option Value := PV.rec (motive := fun _ => Option Value) none (fun k off => Kp none (fun c _ => Kb (fun off => PQ c off) off) (hp s k)) (asP v)
theorem PP (ρ : Operand → Value) (s : DS) (a : Operand) : xld (ρ a) s = zk ρ s (.ld none a) := by
 simp only [xld, Qw, WG, WK, J3, F6, zk]
 generalize ρ a = A
 cases A with
 | pointer p =>
  cases p with
  | none => rfl
  | some ad =>
   obtain ⟨k, off, sp⟩ := ad
   cases sp with
   | some z => rfl
   | none =>
    dsimp only
    cases s.get k with
    | none => rfl
    | some ob => cases ob <;> rfl
 | _ => rfl
def Cx : Value → Bool :=
 Value.rec (motive_1 := fun _ => Bool) (motive_2 := fun _ => PUnit) (motive_3 := fun _ => PUnit) (fun _ => true) (fun _ _ => true) (fun _ _ => true) (fun _ _ _ => true) (fun _ => true) (fun _ => true) (fun _ _ _ => true) (fun _ => true) (fun _ => true)
  (fun _ _ _ _ _ => true) true (fun _ _ _ => true) true (fun _ _ => false) (fun _ _ => false) (fun _ _ => ⟨⟩) ⟨⟩ (fun _ _ _ _ => ⟨⟩)
def QF (size : Nat) (a v : Value) (s : DS) : Option DS :=
 match a with
 | .pointer (some ⟨k, off, none⟩) =>
  let cs := v.cells.toList
  if Nat.beq cs.length size && zh cs then s.write k off cs else none
 | _ => none
def CV (s : DS) (k : Nat) (o : DObj) : Option DS := DS.rec (motive := fun _ => Option DS) (fun h n vis wr => Bool.rec (motive := fun _ => Option DS) none (some (DS.mk (Wr.rec (motive := fun _ => PT DObj) (fun f => f (some o) h) (wrs k)) n vis wr)) (wr k)) s
theorem Vn (s : DS) (k : Nat) (o : DObj) : CV s k o = s.set k o := by
 unfold CV DS.set
 rw [QC]
 show Bool.rec (motive := fun _ => Option DS) none (some (DS.mk (s.heap.put k (some o)) s.next s.vis s.wr)) (s.wr k) = _
 cases s.wr k <;> rfl
def PN (a v : Value) (s : DS) : Option DS :=
 Bool.rec (motive := fun _ => Option DS) (QF 1 a v s)
  (PV.rec (motive := fun _ => Option DS) none (fun k off => Kp none (fun c ro => Bool.rec (motive := fun _ => Option DS) (Kb (fun off => Option.rec (motive := fun _ => Option DS) none (fun _ => CV s k (.cells (Nk c off v) false)) (PQ c off)) off) none ro) (hp s k)) (asP a)) (Cx v)
end
end Go.Dx
set_option linter.unusedVariables false
set_option linter.unusedSimpArgs false
set_option linter.unusedSectionVars false
namespace Go.Dx
open Go
noncomputable section
theorem Fy {v : Value} (h : Cx v = true) : v.cells.toList = [v] ∧ zg v = true := by
 cases v <;> first | exact ⟨rfl, rfl⟩ | cases h
theorem JF : ∀ (l : List Value) (i : Nat), (getN l i).isSome = Nat.ble (i + 1) l.length
 | [], i => rfl
 | x :: l, 0 => rfl
 | x :: l, i + 1 => JF l i
theorem Rx (c : Cells) (i : Nat) : (c.get i).isSome = Nat.ble (i + 1) c.size := by
 cases c with
 | list l => exact JF l i
 | str l => exact JF l i
 | tree n z t =>
  show (if i < n then some ((t.get i).getD z) else none).isSome = Nat.blt i n
  by_cases h : i < n
  · rw [if_pos h, Zl h]; rfl
  · rw [if_neg h, Yb h]; rfl
theorem SR (a v : Value) (s : DS) : PN a v s = QF 1 a v s := by
 unfold PN
 cases h : Cx v with
 | false => rfl
 | true =>
  show PV.rec (motive := fun _ => Option DS) none _ (asP a) = _
  rw [Qw]
  obtain ⟨h1, h2⟩ := Fy h
  cases a with
  | pointer p =>
   cases p with
   | none => rfl
   | some ad =>
    obtain ⟨k, off, sp⟩ := ad
    cases sp with
    | some z => rfl
    | none =>
     have hc : (Nat.beq v.cells.toList.length 1 && zh v.cells.toList) = true := by
      rw [h1]; simp only [List.length_singleton, zh, h2]; rfl
     simp only [QF, hc, if_true, WG, WK, J3, F6, ST, Vn]
     unfold DS.write
     rw [h1]
     cases s.get k with
     | none => rfl
     | some ob =>
      cases ob with
      | cells c ro =>
       cases ro with
       | true => rfl
       | false =>
        have hp := Rx c off
        show Option.rec (motive := fun _ => Option DS) none (fun _ => s.set k (.cells (c.set off v) false)) (c.get off) = if Nat.ble (off + 1) c.size = true then s.set k (.cells (c.set off v) false) else none
        rw [← hp]
        cases c.get off <;> rfl
      | _ => rfl
  | _ => rfl
def Jk (l : List Value) : Nat := List.rec (motive := fun _ => Nat) 0 (fun _ _ ih => Nat.succ ih) l
theorem YH : ∀ l : List Value, Jk l = l.length
 | [] => rfl
 | _ :: l => congrArg Nat.succ (YH l)
def F0 (l : List Value) : Bool := List.rec (motive := fun _ => Bool) true (fun v _ ih => Bool.rec (motive := fun _ => Bool) false ih (Cx v)) l
theorem Rk (v : Value) : Cx v = zg v := by cases v <;> rfl
theorem Jx : ∀ l : List Value, F0 l = zh l
 | [] => rfl
 | v :: l => by
  show Bool.rec (motive := fun _ => Bool) false (F0 l) (Cx v) = (zg v && zh l)
  rw [Rk, Jx l]
  cases zg v <;> rfl
def GI (n : Nat) : List Value → List Value := Nat.rec (motive := fun _ => List Value → List Value) (fun l => l) (fun _ ih l => List.rec (motive := fun _ => List Value) [] (fun _ t _ => ih t) l) n
theorem Ki : ∀ (n : Nat) (l : List Value), GI n l = l.drop n
 | 0, _ => rfl
 | n + 1, [] => rfl
 | n + 1, _ :: l => Ki n l
def tkX (n : Nat) : List Value → Option (List Value) := Nat.rec (motive := fun _ => List Value → Option (List Value)) (fun _ => some []) (fun _ ih l => List.rec (motive := fun _ => Option (List Value)) none (fun x t _ => Option.rec (motive := fun _ => Option (List Value)) none (fun r => some (x :: r)) (ih t)) l) n
theorem KY : ∀ (l : List Value) (off : Nat), getN l off = (l.drop off).head?
 | [], off => by simp [getN]
 | x :: l, 0 => rfl
 | x :: l, off + 1 => KY l off
theorem Fl (c : Cells) (l : List Value) (hc : ∀ i, c.get i = getN l i) : ∀ (n off : Nat), tkX n (l.drop off) = c.take off n
 | 0, _ => rfl
 | n + 1, off => by
  simp only [Cells.take, hc, KY]
  cases hd : l.drop off with
  | nil => rfl
  | cons x t =>
   have ht : t = l.drop (off + 1) := by
    rw [← List.drop_drop, hd]; rfl
   show Option.rec (motive := fun _ => Option (List Value)) none (fun r => some (x :: r)) (tkX n t) = (match c.take (off + 1) n with | none => none | some l => some (x :: l))
   rw [ht, Fl c l hc n (off + 1)]
   cases c.take (off + 1) n <;> rfl
def CT (c : Cells) (off n : Nat) : Option (List Value) := Cells.rec (motive := fun _ => Option (List Value)) (fun l => tkX n (GI off l)) (fun _ _ _ => c.take off n) (fun l => tkX n (GI off l)) c
theorem VQ (c : Cells) (off n : Nat) : CT c off n = c.take off n := by
 cases c with
 | list l => show tkX n (GI off l) = _; rw [Ki]; exact Fl _ l (fun _ => rfl) n off
 | str l => show tkX n (GI off l) = _; rw [Ki]; exact Fl _ l (fun _ => rfl) n off
 | tree m z t => rfl
def NB (vs : List Value) : List Value → List Value := List.rec (motive := fun _ => List Value → List Value) (fun l => l) (fun v _ ih l => List.rec (motive := fun _ => List Value) [] (fun _ t _ => v :: ih t) l) vs
def Kf (off : Nat) (vs : List Value) : List Value → List Value := Nat.rec (motive := fun _ => List Value → List Value) (NB vs) (fun _ ih l => List.rec (motive := fun _ => List Value) [] (fun x t _ => x :: ih t) l) off
theorem QL : ∀ (off : Nat) (l : List Value), Kf off [] l = l
 | 0, _ => rfl
 | off + 1, [] => rfl
 | off + 1, x :: l => congrArg (x :: ·) (QL off l)
theorem W5 : ∀ (off : Nat) (v : Value) (vs l : List Value), Kf off (v :: vs) l = Kf (off + 1) vs (zt l off v)
 | 0, v, vs, [] => by cases vs <;> rfl
 | 0, v, vs, x :: l => rfl
 | off + 1, v, vs, [] => rfl
 | off + 1, v, vs, x :: l => congrArg (x :: ·) (W5 off v vs l)
theorem Ke : ∀ (vs : List Value) (off : Nat) (l : List Value), Cells.list (Kf off vs l) = (Cells.list l).fillFrom off vs
 | [], off, l => by rw [QL]; rfl
 | v :: vs, off, l => by rw [W5]; exact Ke vs (off + 1) _
theorem K1 : ∀ (vs : List Value) (off : Nat) (l : List Value), Cells.str (Kf off vs l) = (Cells.str l).fillFrom off vs
 | [], off, l => by rw [QL]; rfl
 | v :: vs, off, l => by rw [W5]; exact K1 vs (off + 1) _
def Pc (c : Cells) (off : Nat) (vs : List Value) : Cells := Cells.rec (motive := fun _ => Cells) (fun l => .list (Kf off vs l)) (fun _ _ _ => c.fillFrom off vs) (fun l => .str (Kf off vs l)) c
theorem CY (c : Cells) (off : Nat) (vs : List Value) : Pc c off vs = c.fillFrom off vs := by
 cases c with
 | list l => exact Ke vs off l
 | str l => exact K1 vs off l
 | tree m z t => rfl
def R9 (c : Cells) : Nat := Cells.rec (motive := fun _ => Nat) Jk (fun n _ _ => n) Jk c
theorem CU (c : Cells) : R9 c = c.size := by
 cases c with
 | list l => exact YH l
 | str l => exact YH l
 | tree m z t => rfl
def KI (s : DS) (k off n : Nat) : Option (List Value) := Kp none (fun c _ => CT c off n) (hp s k)
theorem Wc (s : DS) (k off n : Nat) : KI s k off n = s.read k off n := by
 unfold KI DS.read
 simp only [WK, J3, VQ]
 cases s.get k with
 | none => rfl
 | some ob => cases ob <;> rfl
def JA (s : DS) (k off : Nat) (l : List Value) : Option DS :=
 Kp none (fun c ro => Bool.rec (motive := fun _ => Option DS) (Bool.rec (motive := fun _ => Option DS) none (CV s k (.cells (Pc c off l) false)) (Nat.ble (Nat.add off (Jk l)) (R9 c))) none ro) (hp s k)
theorem QB (s : DS) (k off : Nat) (l : List Value) : JA s k off l = s.write k off l := by
 unfold JA DS.write
 simp only [WK, J3, CY, Vn, CU, YH, XT]
 cases s.get k with
 | none => rfl
 | some ob =>
  cases ob with
  | cells c ro => cases ro <;> rfl
  | _ => rfl
def RW (l r : List Value) : List Value := List.rec (motive := fun _ => List Value) l (fun _ _ _ => l ++ r) r
theorem RV (l r : List Value) : RW l r = l ++ r := by
 cases r with
 | nil => exact (List.append_nil l).symm
 | cons x r => rfl
def CN (l r : List Value) : List Value := List.rec (motive := fun _ => List Value) r (fun x _ ih => x :: ih) l
theorem DT (l r : List Value) : CN l r = l ++ r := by
 induction l with
 | nil => rfl
 | cons x l ih => exact congrArg (x :: ·) ih
def evX (t : PT Value) (x : Operand) : Value := Rd.rec (motive := fun _ => Value) (fun f => f t) (rd x)
theorem VD (t : PT Value) : evX t = ev t := by
 funext x
 unfold evX
 rw [Dj]
def VZ (n : Nat) (k : List Value → Option (List Value)) : List Value → Option (List Value) :=
 Nat.rec (motive := fun _ => List Value → Option (List Value)) k (fun _ ih zs => List.rec (motive := fun _ => Option (List Value)) none (fun z t _ => Option.rec (motive := fun _ => Option (List Value)) none (fun r => some (z :: r)) (ih t)) zs) n
def V6 (vs : List Value) (k : List Value → Option (List Value)) : List Value → Option (List Value) :=
 List.rec (motive := fun _ => List Value → Option (List Value)) k (fun v _ ih zs => List.rec (motive := fun _ => Option (List Value)) none (fun _ t _ => Option.rec (motive := fun _ => Option (List Value)) none (fun r => some (v :: r)) (ih t)) zs) vs
def DF (ρ : Operand → Value) (parts : List (Nat × Nat × Operand)) : Nat → List Value → Option (List Value) :=
 List.rec (motive := fun _ => Nat → List Value → Option (List Value)) (fun _ zs => some zs)
  (fun p _ ih pos zs => Bool.rec (motive := fun _ => Option (List Value)) none (Bool.rec (motive := fun _ => Option (List Value)) none
   (VZ (Nat.sub p.1 pos) (V6 (ρ p.2.2).cells.toList (ih (Nat.add p.1 p.2.1))) zs) (Nat.beq (Jk (ρ p.2.2).cells.toList) p.2.1)) (Nat.ble pos p.1)) parts
theorem JD : ∀ (n : Nat) (k : List Value → Option (List Value)) (zs r : List Value), VZ n k zs = some r → ∃ a t r', zs = a ++ t ∧ a.length = n ∧ k t = some r' ∧ r = a ++ r'
 | 0, k, zs, r, h => ⟨[], zs, r, rfl, rfl, h, rfl⟩
 | n + 1, k, [], r, h => by cases h
 | n + 1, k, z :: zs, r, h => by
  have h : Option.rec (motive := fun _ => Option (List Value)) none (fun r => some (z :: r)) (VZ n k zs) = some r := h
  cases h1 : VZ n k zs with
  | none => rw [h1] at h; cases h
  | some r1 =>
   rw [h1] at h
   cases h
   obtain ⟨a, t, r', rfl, hl, hk, rfl⟩ := JD n k zs r1 h1
   exact ⟨z :: a, t, r', rfl, congrArg Nat.succ hl, hk, rfl⟩
theorem JT : ∀ (vs : List Value) (k : List Value → Option (List Value)) (zs r : List Value), V6 vs k zs = some r → ∃ a t r', zs = a ++ t ∧ a.length = vs.length ∧ k t = some r' ∧ r = vs ++ r'
 | [], k, zs, r, h => ⟨[], zs, r, rfl, rfl, h, rfl⟩
 | v :: vs, k, [], r, h => by cases h
 | v :: vs, k, z :: zs, r, h => by
  have h : Option.rec (motive := fun _ => Option (List Value)) none (fun r => some (v :: r)) (V6 vs k zs) = some r := h
  cases h1 : V6 vs k zs with
  | none => rw [h1] at h; cases h
  | some r1 =>
   rw [h1] at h
   cases h
   obtain ⟨a, t, r', rfl, hl, hk, rfl⟩ := JT vs k zs r1 h1
   exact ⟨z :: a, t, r', rfl, congrArg Nat.succ hl, hk, rfl⟩
theorem Kg (ρ : Operand → Value) : ∀ (parts : List (Nat × Nat × Operand)) (pos : Nat) (zs r pre : List Value), DF ρ parts pos zs = some r → pre.length = pos → zi ρ (pre ++ zs) parts = some (pre ++ r)
 | [], pos, zs, r, pre, h, hp => by cases h; rfl
 | (off, size, x) :: rest, pos, zs, r, pre, h, hp => by
  have h : Bool.rec (motive := fun _ => Option (List Value)) none (Bool.rec (motive := fun _ => Option (List Value)) none
   (VZ (Nat.sub off pos) (V6 (ρ x).cells.toList (DF ρ rest (Nat.add off size))) zs) (Nat.beq (Jk (ρ x).cells.toList) size)) (Nat.ble pos off) = some r := h
  cases h1 : Nat.ble pos off with
  | false => rw [h1] at h; cases h
  | true =>
   rw [h1] at h
   cases h2 : Nat.beq (Jk (ρ x).cells.toList) size with
   | false => rw [h2] at h; cases h
   | true =>
    rw [h2] at h
    obtain ⟨a, t, r', rfl, hl, hk, rfl⟩ := JD _ _ _ _ h
    obtain ⟨b, t', r'', rfl, hl', hk', rfl⟩ := JT _ _ _ _ hk
    have hle := Nat.le_of_ble_eq_true h1
    have hsz := Nat.eq_of_beq_eq_true h2
    rw [YH] at hsz h2
    have hoff : (pre ++ a).length = off := by rw [List.length_append, hp, hl]; show pos + (off - pos) = off; omega
    have hb : b.length = size := hl'.trans hsz
    simp only [zi]
    have hcond : (Nat.beq (ρ x).cells.toList.length size && Nat.ble (off + size) (pre ++ (a ++ (b ++ t'))).length) = true := by
     rw [h2]
     simp only [Bool.true_and, Nat.ble_eq, List.length_append]
     rw [List.length_append] at hoff
     omega
    rw [if_pos hcond]
    have e1 : (pre ++ (a ++ (b ++ t'))).take off = pre ++ a := by
     rw [← List.append_assoc, ← hoff, List.take_left]
    have e2 : (pre ++ (a ++ (b ++ t'))).drop (off + size) = t' := by
     have : pre ++ (a ++ (b ++ t')) = (pre ++ a ++ b) ++ t' := by simp [List.append_assoc]
     rw [this]
     have hlen : (pre ++ a ++ b).length = off + size := by rw [List.length_append, hoff, hb]
     rw [← hlen, List.drop_left]
    rw [e1, e2]
    have := Kg ρ rest (off + size) t' r'' (pre ++ a ++ (ρ x).cells.toList) hk' (by rw [List.length_append, hoff, hsz])
    simpa [List.append_assoc] using this
def Vo (ρ : Operand → Value) (z : List Value) (parts : List (Nat × Nat × Operand)) : Option (List Value) := Option.rec (motive := fun _ => Option (List Value)) (zi ρ z parts) (fun r => some r) (DF ρ parts 0 z)
theorem KJ (ρ : Operand → Value) (z : List Value) (parts : List (Nat × Nat × Operand)) : Vo ρ z parts = zi ρ z parts := by
 unfold Vo
 cases h : DF ρ parts 0 z with
 | none => rfl
 | some r => exact (Kg ρ parts 0 z r [] h rfl).symm
def SS (s : DS) (size : Nat) (x : Value) (n : Nat) : Option (List Value) :=
 match x with
 | .slice none _ _ => some []
 | .slice (some ⟨k, off, _⟩) _ _ => KI s k off (n * size)
 | .string b => some ((b.data.toList.take n).map fun c => .int .u8 c.toNat)
 | _ => none
theorem F4 (s : DS) (size : Nat) (x : Value) (n : Nat) : SS s size x n = Zu s size x n := by
 unfold SS Zu
 simp only [Wc]
 cases x with
 | slice a l c =>
  cases a with
  | none => rfl
  | some ad => obtain ⟨k, o, sp⟩ := ad; rfl
 | _ => rfl
def Th (v : Value) : Option Value := BV.rec (motive := fun _ => Option Value) none (fun b => some (.bool (Bool.rec (motive := fun _ => Bool) true false b))) (asB v)
def Fo (c a b : Value) : Option Value := BV.rec (motive := fun _ => Option Value) none (fun c => some (Bool.rec (motive := fun _ => Value) b a c)) (asB c)
def Vu (k : IntKind) (v : Value) : Option Value := IV.rec (motive := fun _ => Option Value) none (fun _ a => some (.int k (Int.rec (motive := fun _ => Int) (fun m => Jl k m) (fun _ => zw k a) a))) (asI v)
def Nx (v : Value) : Option Value := match v with
 | .pointer (some a) => some (.pointer (some a))
 | .func (.func f) a b => some (.func (.func f) a b)
 | .func (.yield l) a b => some (.func (.yield l) a b)
 | _ => none
def C0 (v : Value) : Option Value := AV.rec (motive := fun _ => Option Value) (Nx v) (Option.rec none fun a => some (.pointer (some a))) (asA v)
def Fq (off : Nat) (v : Value) : Option Value := PV.rec (motive := fun _ => Option Value) none (fun k o => some (.pointer (some ⟨k, Nat.add o off, none⟩))) (asP v)
def Tl (n size : Nat) (x i : Value) : Option Value := PV.rec (motive := fun _ => Option Value) none (fun k o => Option.rec (motive := fun _ => Option Value) none (fun j => Bool.rec (motive := fun _ => Option Value) none (some (.pointer (some ⟨k, Nat.add o (Nat.mul j size), none⟩))) (Nat.ble (Nat.succ j) n)) (asN i)) (asP x)
def Tj (size : Nat) (x i : Value) : Option Value := LV.rec (motive := fun _ => Option Value) none (fun a len _ => Option.rec (motive := fun _ => Option Value) none (Addr.rec (motive := fun _ => Option Value) fun k o _ => Option.rec (motive := fun _ => Option Value) none (fun j => Bool.rec (motive := fun _ => Option Value) none (some (.pointer (some ⟨k, Nat.add o (Nat.mul j size), none⟩))) (Nat.ble (Nat.succ j) len)) (asN i)) a) (asL x)
def Fp (v : Value) : Option Value := LV.rec (motive := fun _ => Option Value) none (fun _ n _ => some (.int .i64 (Int.ofNat n))) (asL v)
def Tn (i : Nat) (v : Value) : Option Value := TV.rec (motive := fun _ => Option Value) none (fun l => Nt.rec (motive := fun _ => Option Value) (fun f => f l) (nth i)) (asT v)
def To (neg : Bool) (x y : Value) : Option Value := IV.rec (motive := fun _ => Option Value) none (fun k a => IV.rec (motive := fun _ => Option Value) none (fun k' b => Bool.rec (motive := fun _ => Option Value) none (Bool.rec (motive := fun _ => Option Value) (Na k a b) (P9 k a b) neg) (Nat.beq (kcd k) (kcd k'))) (asI y)) (asI x)
def JJ (neg : Bool) (k : SK) (x y : Value) : Option Value := Option.rec none (fun b => some (.bool (Bool.rec b (Bool.rec true false b) neg))) (zN k x y)
def Pj (neg : Bool) (x y : Value) : Option Value :=
 AV.rec (motive := fun _ => Option Value) none (fun a => AV.rec (motive := fun _ => Option Value) none (fun b => Option.rec (motive := fun _ => Option Value) (some (.bool (Option.rec (motive := fun _ => Bool) (Bool.rec (motive := fun _ => Bool) true false neg) (fun _ => Bool.rec (motive := fun _ => Bool) false true neg) b))) (fun _ => Option.rec (motive := fun _ => Option Value) (some (.bool (Bool.rec (motive := fun _ => Bool) false true neg))) (fun _ => JJ neg .ptr x y) b) a) (asA y)) (asA x)
def Db (z : List Value) (parts : List (Nat × Nat × Operand)) (ρ : Operand → Value) : Option Value := match Vo ρ z parts with | some cs => some (.agg ⟨cs⟩) | none => none
def Pg (size : Nat) (x : Value) (lo hi mx : Option Value) : Option Value :=
 match x with
 | .slice a len cap => match Z3 len cap lo hi mx with
  | some (l, h, m) => Yc a size l h m mx.isSome
  | none => none
 | _ => none
def Ph (n size : Nat) (x : Value) (lo hi mx : Option Value) : Option Value :=
 match x with
 | .pointer (some ⟨k, off, none⟩) => match Z3 n n lo hi mx with
  | some (l, h, m) => Yc (some ⟨k, off, none⟩) size l h m true
  | none => none
 | _ => none
def Ny (off : Nat) (agg : Option Nat) (x : Value) : Option Value := match x with | .agg cs => partOf agg cs.toList off | _ => none
def PY (n size : Nat) (agg : Option Nat) (x i : Value) : Option Value :=
 match x, zO i with
 | .agg cs, some j => if Nat.blt j n then partOf agg cs.toList (j * size) else none
 | _, _ => none
def PX (x i : Value) : Option Value :=
 match x, zO i with
 | .string s, some j => match s.data.toList.drop j with
  | c :: _ => some (.int .u8 c.toNat)
  | [] => none
 | _, _ => none
def PW (x : Value) : Option Value := match x with | .string s => some (.int .i64 s.data.toList.length) | _ => none
def Pi (n : Nat) (a : Value) (s : DS) : Option Value :=
 match a with
 | .pointer (some ⟨k, off, none⟩) => match KI s k off n with
  | some l => some (.agg ⟨l⟩)
  | none => none
 | _ => none
def Da (x : Value) (s : DS) : Option Value :=
 match x with
 | .slice none _ _ => some (.string ⟨⟨[]⟩⟩)
 | .slice (some ⟨k, off, _⟩) len _ => match KI s k off len with
  | some l => match Zz l with
   | some b => some (.string ⟨⟨b⟩⟩)
   | none => none
  | none => none
 | _ => none
def JK (n size : Nat) (z : List Value) (parts : List (Nat × Nat × Operand)) (ρ : Operand → Value) (s : DS) : Option (Value × DS) :=
 if Nat.ble (n * size) 1048576 then
  match Vo ρ (repeatZ z n) parts with
  | some cs => some (.slice (some ⟨s.next, 0, none⟩) n n, Jj s (.cells (.list cs) false))
  | none => none
 else none
def QG (bytes : Nat) (z : List Value) (l c : Value) (s : DS) : Option (Value × DS) :=
 match zO l, zO c with
 | some l, some c =>
  if Nat.ble l c && Nat.ble c 1099511627776 && Nat.ble (c * bytes) 1099511627776 then
   some (.slice (some ⟨s.next, 0, none⟩) l c, Jj s (.cells (match z with | [v] => if Nat.blt 32 c then .tree c v .nil else .list (repeatZ z c) | _ => .list (repeatZ z c)) false))
  else none
 | _, _ => none
def Fs (bytes size : Nat) (x y : Value) (s : DS) : Option (Value × DS) :=
 match x, YF y with
 | .slice base len cap, some n =>
  match SS s size y n with
  | none => none
  | some new =>
   if !(Nat.beq (Jk new) (n * size) && F0 new) then none else
   if Nat.ble (len + n) cap then
    match base with
    | none => if Nat.beq n 0 then some (.slice none (len + n) cap, s) else none
    | some ⟨k, off, sp⟩ =>
     if Nat.beq n 0 then some (.slice (some ⟨k, off, sp⟩) (len + n) cap, s) else
     match JA s k (off + len * size) new with
     | some s' => some (.slice (some ⟨k, off, sp⟩) (len + n) cap, s')
     | none => none
   else if Nat.ble (len + n) 1099511627776 && Nat.ble ((len + n) * bytes) 1099511627776 then
    match base with
    | none => if Nat.beq len 0 then some (.slice (some ⟨s.next, 0, some size⟩) n n, Jj s (.cells (.list new) false)) else none
    | some ⟨k, off, none⟩ =>
     match KI s k off (len * size) with
     | some old => if F0 old then some (.slice (some ⟨s.next, 0, some size⟩) (len + n) (len + n), Jj s (.cells (.list (CN old new)) false)) else none
     | none => none
    | some ⟨k, off, some sz⟩ =>
     if Nat.beq sz size then
      match hp s k with
      | some (.cells c false) => match CT c off (len * size), s.kill k with
       | some old, some s' => if F0 old then some (.slice (some ⟨s'.next, 0, some size⟩) (len + n) (len + n), Jj s' (.cells (c.like (CN old new)) false)) else none
       | _, _ => none
      | _ => none
     else none
   else none
 | _, _ => none
def Vv (size : Nat) (d x : Value) (s : DS) : Option (Value × DS) :=
 match d, YF x with
 | .slice base len _, some m =>
  let n := if Nat.ble m len then m else len
  match SS s size x n with
  | none => none
  | some new =>
   if !(Nat.beq (Jk new) (n * size) && F0 new) then none else
   match base with
   | none => some (.int .i64 n, s)
   | some ⟨k, off, _⟩ =>
    if Nat.beq n 0 then some (.int .i64 n, s) else
    match JA s k off new with
    | some s' => some (.int .i64 n, s')
    | none => none
 | _, _ => none
def SX (size : Nat) (a v : Value) (s : DS) : Option DS :=
 PV.rec (motive := fun _ => Option DS) none (fun k off => Bool.rec (motive := fun _ => Option DS) none (Bool.rec (motive := fun _ => Option DS) none (JA s k off v.cells.toList) (F0 v.cells.toList)) (Nat.beq (Jk v.cells.toList) size)) (asP a)
theorem SW (size : Nat) (a v : Value) (s : DS) : SX size a v s = QF size a v s := by
 simp only [SX, Qw, QB, Jx, YH, XT, QF]
 cases a with
 | pointer p =>
  cases p with
  | none => rfl
  | some ad =>
   obtain ⟨k, off, sp⟩ := ad
   cases sp with
   | some z => rfl
   | none => dsimp only; cases Nat.beq v.cells.toList.length size <;> cases zh v.cells.toList <;> rfl
 | _ => rfl
def xop (o : DOp) : XOp :=
 match o with
 | .mv x => lt1 x fun f => .tot f
 | .bin op x y => Bf.rec (fun g => lt1 x fun f => lt1 y fun h => .val fun t _ => g (f t) (h t)) (Pk op)
 | .eq neg (.one .int) x y => lt1 x fun f => lt1 y fun h => .val fun t _ => To neg (f t) (h t)
 | .eq neg (.one .ptr) x y => lt1 x fun f => lt1 y fun h => .val fun t _ => Pj neg (f t) (h t)
 | .eq neg (.one k) x y => lt1 x fun f => lt1 y fun h => .val fun t _ => JJ neg k (f t) (h t)
 | .un .not x => lt1 x fun f => .val fun t _ => Th (f t)
 | .pick c a b => lt1 c fun f => lt1 a fun g => lt1 b fun h => .val fun t _ => Fo (f t) (g t) (h t)
 | .cvInt k x => lt1 x fun f => .val fun t _ => Vu k (f t)
 | .nilck x => lt1 x fun f => .val fun t _ => C0 (f t)
 | .alloc z => .neu fun _ => .cells (.list z) false
 | .box x => lt1 x fun f => .neu fun t => .cells (.list (f t).cells.toList) false
 | .build z parts => .val fun t _ => Db z parts (evX t)
 | .bslice n size z parts => .act fun _ t s => JK n size z parts (evX t) s
 | .ld none a => lt1 a fun f => .val fun t s => xld (f t) s
 | .ld (some n) a => lt1 a fun f => .val fun t s => Pi n (f t) s
 | .st 1 a x => lt1 a fun f => lt1 x fun g => .eff fun t s => PN (f t) (g t) s
 | .st size a x => lt1 a fun f => lt1 x fun g => .eff fun t s => SX size (f t) (g t) s
 | .mkf f first captured => La.rec (fun g => La.rec (fun h => .tot fun t => .func (.func f) ⟨g t⟩ ⟨h t⟩) (la captured)) (la first)
 | .mkslice bytes z l c => lt1 l fun f => lt1 c fun g => .act fun _ t s => QG bytes z (f t) (g t) s
 | .slL size x lo hi mx => lt1 x fun f => .val fun t _ => Pg size (f t) (lo.map (evX t)) (hi.map (evX t)) (mx.map (evX t))
 | .slA n size x lo hi mx => lt1 x fun f => .val fun t _ => Ph n size (f t) (lo.map (evX t)) (hi.map (evX t)) (mx.map (evX t))
 | .fadr off x => lt1 x fun f => .val fun t _ => Fq off (f t)
 | .fld off agg x => lt1 x fun f => .val fun t _ => Ny off agg (f t)
 | .ixA n size x i => lt1 x fun f => lt1 i fun g => .val fun t _ => Tl n size (f t) (g t)
 | .ixL size x i => lt1 x fun f => lt1 i fun g => .val fun t _ => Tj size (f t) (g t)
 | .idxA n size agg x i => lt1 x fun f => lt1 i fun g => .val fun t _ => PY n size agg (f t) (g t)
 | .idxS x i => lt1 x fun f => lt1 i fun g => .val fun t _ => PX (f t) (g t)
 | .ext x i => lt1 x fun f => .val fun t _ => Tn i (f t)
 | .blenL x => lt1 x fun f => .val fun t _ => Fp (f t)
 | .blenS x => lt1 x fun f => .val fun t _ => PW (f t)
 | .cvToStr x => lt1 x fun f => .val fun t s => Da (f t) s
 | .bapp bytes size x y => lt1 x fun f => lt1 y fun g => .act fun _ t s => Fs bytes size (f t) (g t) s
 | .bcopy size x y => lt1 x fun f => lt1 y fun g => .act fun _ t s => Vv size (f t) (g t) s
 | .call f args => lt1 f fun g => La.rec (fun h => .act fun call t s => call (g t) (h t) s) (la args)
 | o => .act fun call t s => dop call (ev t) s o
end
end Go.Dx
set_option linter.unusedVariables false
set_option linter.unusedSimpArgs false
set_option linter.unusedSectionVars false
namespace Go.Dx
open Go
noncomputable section
variable (ρ : Operand → Value)
theorem Tg (x : Operand) : Th (ρ x) = zc ρ (.un .not x) := by
 simp only [Th, Jw, zc]
 generalize ρ x = A
 cases A with
 | bool b => cases b <;> rfl
 | _ => rfl
theorem Cn (c a b : Operand) : Fo (ρ c) (ρ a) (ρ b) = zc ρ (.pick c a b) := by
 simp only [Fo, Jw, zc]
 generalize ρ c = A
 cases A with
 | bool b => cases b <;> rfl
 | _ => rfl
theorem Fr (k : IntKind) (x : Operand) : Vu k (ρ x) = zc ρ (.cvInt k x) := by
 simp only [Vu, XU, zc]
 generalize ρ x = A
 cases A with
 | int j a =>
  cases a with
  | ofNat m => show some (Value.int k (Jl k m)) = _; rw [Xh]
  | negSucc m => rfl
 | _ => rfl
theorem CZ (x : Operand) : C0 (ρ x) = zc ρ (.nilck x) := by
 simp only [C0, zc]
 generalize ρ x = A
 cases A with
 | pointer p => cases p <;> rfl
 | func g a b => cases g <;> rfl
 | _ => rfl
theorem Cp (off : Nat) (x : Operand) : Fq off (ρ x) = zc ρ (.fadr off x) := by
 simp only [Fq, Qw, zc]
 generalize ρ x = A
 cases A with
 | pointer p =>
  cases p with
  | none => rfl
  | some ad =>
   obtain ⟨k, o, sp⟩ := ad
   cases sp <;> rfl
 | _ => rfl
theorem RP {α : Type} (c : Bool) (a b : α) : _root_.cond c a b = if c = true then a else b := by cases c <;> rfl
theorem Tk (n size : Nat) (x i : Operand) : Tl n size (ρ x) (ρ i) = zc ρ (.ixA n size x i) := by
 simp only [Tl, Qw, Sy, zc, XT]
 generalize ρ x = A
 cases A with
 | pointer p =>
  cases p with
  | none => rfl
  | some ad =>
   obtain ⟨k, o, sp⟩ := ad
   cases sp with
   | some z => rfl
   | none => dsimp only; cases zO (ρ i) <;> rfl
 | _ => rfl
theorem Ti (size : Nat) (x i : Operand) : Tj size (ρ x) (ρ i) = zc ρ (.ixL size x i) := by
 simp only [Tj, DR, Sy, zc, XT]
 generalize ρ x = A
 cases A with
 | slice p len cap =>
  cases p with
  | none => rfl
  | some ad =>
   obtain ⟨k, o, sp⟩ := ad
   dsimp only; cases zO (ρ i) <;> rfl
 | _ => rfl
theorem Co (x : Operand) : Fp (ρ x) = zc ρ (.blenL x) := by
 simp only [Fp, DR, zc]
 generalize ρ x = A
 cases A <;> rfl
theorem Tm (x : Operand) (i : Nat) : Tn i (ρ x) = zc ρ (.ext x i) := by
 simp only [Tn, RR, zc, Vy]
 generalize ρ x = A
 cases A <;> rfl
theorem RN (k : SK) (x y : Value) : ZN 5000 (.one k) x y = zN k x y := by
 show ZN (4999 + 1) (.one k) x y = _
 simp only [ZN]
theorem JI (neg : Bool) (k : SK) (x y : Operand) : JJ neg k (ρ x) (ρ y) = zc ρ (.eq neg (.one k) x y) := by
 simp only [JJ, zc, RN]
 cases zN k (ρ x) (ρ y) with
 | none => rfl
 | some b => cases neg <;> cases b <;> rfl
theorem Cr (neg : Bool) (x y : Value) : To neg x y = JJ neg .int x y := by
 simp only [To, JJ, XU]
 cases x with
 | int k a =>
  cases y with
  | int k' b =>
   simp only [zN, KO, DH, DG]
   by_cases e : k = k'
   · subst e
     simp only [decide_true, if_true]
     cases neg with
     | false => rfl
     | true => show zl .neq k a b = some (.bool (Bool.rec true false (decide (a = b)))); simp only [zl]; cases decide (a = b) <;> rfl
   · simp only [decide_eq_false e, if_neg e]
  | _ => rfl
 | _ => rfl
theorem Cq (neg : Bool) (x y : Value) : Pj neg x y = JJ neg .ptr x y := by
 cases x with
 | pointer a =>
  cases y with
  | pointer b =>
   cases a with
   | none => cases b <;> cases neg <;> rfl
   | some a => cases b with
    | none => cases neg <;> rfl
    | some b => rfl
  | _ => first | rfl | (cases a with | none => rfl | some a => rfl)
 | _ => rfl
theorem Vt (s : DS) (size : Nat) (a x : Operand) : (Option.rec (motive := fun _ => Option (Value × DS)) none (fun s' => some (zr, s')) (QF size (ρ a) (ρ x) s)) = zj ρ s (.st size a x) := by
 simp only [QF, zj]
 generalize ρ a = A
 cases A with
 | pointer p =>
  cases p with
  | none => rfl
  | some ad =>
   obtain ⟨k, o, sp⟩ := ad
   cases sp with
   | some z => rfl
   | none =>
    dsimp only
    split
    · cases s.write k o (ρ x).cells.toList <;> rfl
    · rfl
 | _ => rfl
theorem Fg (o : DOp) (call : zm) (t : PT Value) (s : DS) : (xop o).go call t s = dop call (ev t) s o := by
 have val : ∀ (o : DOp) (z : Option Value), o.cls = .pure → z = zc (ev t) o → (Option.rec (motive := fun _ => Option (Value × DS)) none (fun v => some (v, s)) z) = dop call (ev t) s o := by
  intro o z hc hz
  subst hz
  unfold dop
  rw [hc]
  cases zc (ev t) o <;> rfl
 have rdv : ∀ (o : DOp) (z : Option Value), o.cls = .read → z = zk (ev t) s o → (Option.rec (motive := fun _ => Option (Value × DS)) none (fun v => some (v, s)) z) = dop call (ev t) s o := by
  intro o z hc hz
  subst hz
  unfold dop
  rw [hc]
  cases zk (ev t) s o <;> rfl
 cases o with
 | mv x => simp only [xop, zT]; rfl
 | bin op x y => simp only [xop, zT, TC]; exact val (.bin op x y) _ rfl rfl
 | eq neg e x y =>
  cases e with
  | one k =>
   cases k <;> simp only [xop, zT]
   case int => exact val (.eq neg (.one .int) x y) _ rfl ((Cr neg _ _).trans (JI _ neg .int x y))
   case ptr => exact val (.eq neg (.one .ptr) x y) _ rfl ((Cq neg _ _).trans (JI _ neg .ptr x y))
   all_goals exact val (.eq neg (.one _) x y) _ rfl (JI _ neg _ x y)
  | struct fs => rfl
  | arr n z e => rfl
 | un op x =>
  cases op <;> first
   | rfl
   | (simp only [xop, zT]; exact val (.un .not x) _ rfl (Tg _ x))
 | pick c a b => simp only [xop, zT]; exact val (.pick c a b) _ rfl (Cn _ c a b)
 | cvInt k x => simp only [xop, zT]; exact val (.cvInt k x) _ rfl (Fr _ k x)
 | nilck x => simp only [xop, zT]; exact val (.nilck x) _ rfl (CZ _ x)
 | alloc z => show some (Value.pointer (some ⟨s.next, 0, none⟩), Jj s (.cells (.list z) false)) = _; rw [Xz]; rfl
 | box x => simp only [xop, zT]; show some (Value.pointer (some ⟨s.next, 0, none⟩), Jj s (.cells (.list (ev t x).cells.toList) false)) = _; rw [Xz]; rfl
 | build z parts => exact val (.build z parts) _ rfl (by simp only [Db, KJ, VD, zc]; rfl)
 | ld agg a =>
  cases agg with
  | none => simp only [xop, zT]; exact rdv (.ld none a) _ rfl (PP _ s a)
  | some n => simp only [xop, zT]; exact rdv (.ld (some n) a) _ rfl (by simp only [Pi, Wc, zk]; rfl)
 | st size a x =>
  by_cases h : size = 1
  · subst h
    simp only [xop, zT]
    refine Eq.trans ?_ (Vt (ev t) s 1 a x)
    rw [← SR]
    rfl
  · have : xop (.st size a x) = lt1 a fun f => lt1 x fun g => .eff fun t s => SX size (f t) (g t) s := by
     unfold xop
     split <;> first | rfl | contradiction | (rename_i heq; cases heq; first | rfl | exact absurd rfl h) | skip
     all_goals simp_all
    rw [this]
    simp only [zT, SW]
    exact Vt (ev t) s size a x
 | mkf f first captured => simp only [xop, TL]; rfl
 | slL size x lo hi mx => simp only [xop, zT]; exact val (.slL size x lo hi mx) _ rfl (by simp only [Pg, zc, Option.isSome_map, VD]; generalize ev t x = A; cases A <;> rfl)
 | slA n size x lo hi mx => simp only [xop, zT]; exact val (.slA n size x lo hi mx) _ rfl (by simp only [Ph, zc, VD]; rfl)
 | fadr off x => simp only [xop, zT]; exact val (.fadr off x) _ rfl (Cp _ off x)
 | fld off agg x => simp only [xop, zT]; exact val (.fld off agg x) _ rfl rfl
 | ixA n size x i => simp only [xop, zT]; exact val (.ixA n size x i) _ rfl (Tk _ n size x i)
 | ixL size x i => simp only [xop, zT]; exact val (.ixL size x i) _ rfl (Ti _ size x i)
 | idxA n size agg x i => simp only [xop, zT]; exact val (.idxA n size agg x i) _ rfl rfl
 | idxS x i => simp only [xop, zT]; exact val (.idxS x i) _ rfl rfl
 | ext x i => simp only [xop, zT]; exact val (.ext x i) _ rfl (Tm _ x i)
 | blenL x => simp only [xop, zT]; exact val (.blenL x) _ rfl (Co _ x)
 | blenS x => simp only [xop, zT]; exact val (.blenS x) _ rfl rfl
 | cvToStr x => simp only [xop, zT]; exact rdv (.cvToStr x) _ rfl (by simp only [Da, zk, Wc]; rfl)
 | bslice n size z parts => show JK n size z parts (evX t) s = zF (ev t) s (.bslice n size z parts); simp only [JK, zF, KJ, VD, Xz]; rfl
 | mkslice bytes z l c => simp only [xop, zT]; show QG bytes z (ev t l) (ev t c) s = zF (ev t) s (.mkslice bytes z l c); simp only [QG, zF, Xz]; rfl
 | bapp bytes size x y => simp only [xop, zT]; show Fs bytes size (ev t x) (ev t y) s = zj (ev t) s (.bapp bytes size x y); simp only [Fs, zj, Xz, F4, Wc, QB, J3, VQ, Jx, YH, DT]; rfl
 | bcopy size x y => simp only [xop, zT]; show Vv size (ev t x) (ev t y) s = zj (ev t) s (.bcopy size x y); simp only [Vv, zj, Xz, F4, Wc, QB, Jx, YH]; rfl
 | call f args => simp only [xop, zT, TL]; rfl
 | _ => rfl
end
end Go.Dx
