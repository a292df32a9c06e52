/- A part. -/
import Derived.Test.YtffgmngdgkpflaaGreatDxCall
import Derived.Shelf.Spec.SlicesInsertGrow
set_option linter.unusedVariables false
set_option linter.unusedSimpArgs false
set_option linter.unusedSectionVars false
namespace Go.Dx
open Go
noncomputable section
inductive S8 (α : Type) where
 | mk (f : V8 α → α)
inductive U8 (α : Type) where
 | mk (f : (α → α) → V8 α → V8 α)
def VM {α : Type} (i : Nat) : S8 α :=
 match i with
 | 0 => .mk (V8.rec fun a _ _ _ _ _ _ _ => a)
 | 1 => .mk (V8.rec fun _ a _ _ _ _ _ _ => a)
 | 2 => .mk (V8.rec fun _ _ a _ _ _ _ _ => a)
 | 3 => .mk (V8.rec fun _ _ _ a _ _ _ _ => a)
 | 4 => .mk (V8.rec fun _ _ _ _ a _ _ _ => a)
 | 5 => .mk (V8.rec fun _ _ _ _ _ a _ _ => a)
 | 6 => .mk (V8.rec fun _ _ _ _ _ _ a _ => a)
 | _ => .mk (V8.rec fun _ _ _ _ _ _ _ a => a)
def VL {α : Type} (i : Nat) : U8 α :=
 match i with
 | 0 => .mk (fun g => V8.rec fun a b c d e f h k => .mk (g a) b c d e f h k)
 | 1 => .mk (fun g => V8.rec fun a b c d e f h k => .mk a (g b) c d e f h k)
 | 2 => .mk (fun g => V8.rec fun a b c d e f h k => .mk a b (g c) d e f h k)
 | 3 => .mk (fun g => V8.rec fun a b c d e f h k => .mk a b c (g d) e f h k)
 | 4 => .mk (fun g => V8.rec fun a b c d e f h k => .mk a b c d (g e) f h k)
 | 5 => .mk (fun g => V8.rec fun a b c d e f h k => .mk a b c d e (g f) h k)
 | 6 => .mk (fun g => V8.rec fun a b c d e f h k => .mk a b c d e f (g h) k)
 | _ => .mk (fun g => V8.rec fun a b c d e f h k => .mk a b c d e f h (g k))
theorem CR {α : Type} (i : Nat) : (VM i : S8 α) = .mk (V8.get i) := by
 unfold VM
 split <;> (refine congrArg S8.mk (funext fun v => ?_); cases v; unfold V8.get; first | rfl | (split <;> first | rfl | contradiction | (rename_i hq _ _ _ _ _ _ _; cases hq; rfl)))
theorem CQ {α : Type} (i : Nat) : (VL i : U8 α) = .mk (V8.upd i) := by
 unfold VL
 split <;> (refine congrArg U8.mk (funext fun g => funext fun v => ?_); cases v; unfold V8.upd; first | rfl | (split <;> first | rfl | contradiction | (rename_i hq _ _ _ _ _ _ _; cases hq; rfl)))
inductive Rdx (α : Type) where
 | mk (f : PT α → Option α)
inductive Wr (α : Type) where
 | mk (f : Option α → PT α → PT α)
def rdx {α : Type} (k : Nat) : Rdx α :=
 _root_.cond (Nat.blt k 64)
  (S8.rec (fun f => S8.rec (fun g => Rdx.mk (PT.rec fun lo _ _ _ => g (f lo))) (VM (Nat.mod k 8))) (VM (Nat.div k 8)))
  (_root_.cond (Nat.blt k 4160)
   (S8.rec (fun f => S8.rec (fun g => S8.rec (fun h => S8.rec (fun i => Rdx.mk (PT.rec fun _ mid _ _ => i (h (g (f mid))))) (VM (Nat.mod (Nat.sub k 64) 8)))
    (VM (Nat.mod (Nat.div (Nat.sub k 64) 8) 8))) (VM (Nat.mod (Nat.div (Nat.sub k 64) 64) 8))) (VM (Nat.div (Nat.sub k 64) 512)))
   (Rdx.mk fun t => t.get k))
def wrs {α : Type} (k : Nat) : Wr α :=
 _root_.cond (Nat.blt k 64)
  (U8.rec (fun f => U8.rec (fun g => Wr.mk (fun x => PT.rec fun lo mid far big => .mk (f (g fun _ => x) lo) mid far big)) (VL (Nat.mod k 8))) (VL (Nat.div k 8)))
  (_root_.cond (Nat.blt k 4160)
   (U8.rec (fun f => U8.rec (fun g => U8.rec (fun h => U8.rec (fun i => Wr.mk (fun x => PT.rec fun lo mid far big => .mk lo (f (g (h (i fun _ => x))) mid) far big)) (VL (Nat.mod (Nat.sub k 64) 8)))
    (VL (Nat.mod (Nat.div (Nat.sub k 64) 8) 8))) (VL (Nat.mod (Nat.div (Nat.sub k 64) 64) 8))) (VL (Nat.div (Nat.sub k 64) 512)))
   (Wr.mk fun x t => t.put k x))
theorem Xd {a b : Nat} (h : a < b) : Nat.blt a b = true := (Yv a b).2 h
theorem Wv {a b : Nat} (h : ¬ a < b) : Nat.blt a b = false := by
 cases hb : Nat.blt a b with
 | false => rfl
 | true => exact absurd ((Yv a b).1 hb) h
theorem GQ {α : Type} (k : Nat) : (rdx k : Rdx α) = .mk fun t => t.get k := by
 unfold rdx
 by_cases h1 : k < 64
 · rw [Xd h1]
   simp only [cond_true, CR]
   refine congrArg Rdx.mk (funext fun t => ?_)
   cases t
   simp only [PT.get, h1, if_true]
   rfl
 · rw [Wv h1]
   by_cases h2 : k < 4160
   · rw [Xd h2]
     simp only [cond_true, cond_false, CR]
     refine congrArg Rdx.mk (funext fun t => ?_)
     cases t
     simp only [PT.get, h1, h2, if_true, if_false]
     rfl
   · rw [Wv h2]
     rfl
theorem Vr {α : Type} (k : Nat) : (wrs k : Wr α) = .mk fun x t => t.put k x := by
 unfold wrs
 by_cases h1 : k < 64
 · rw [Xd h1]
   simp only [cond_true, CQ]
   refine congrArg Wr.mk (funext fun x => funext fun t => ?_)
   cases t
   simp only [PT.put, h1, if_true]
   rfl
 · rw [Wv h1]
   by_cases h2 : k < 4160
   · rw [Xd h2]
     simp only [cond_true, cond_false, CQ]
     refine congrArg Wr.mk (funext fun x => funext fun t => ?_)
     cases t
     simp only [PT.put, h1, h2, if_true, if_false]
     rfl
   · rw [Wv h2]
     rfl
inductive IV where
 | no
 | mk (k : IntKind) (n : Int)
inductive BV where
 | no
 | mk (b : Bool)
inductive PV where
 | no
 | mk (k off : Nat)
inductive AV where
 | no
 | mk (a : Option Addr)
inductive LV where
 | no
 | mk (a : Option Addr) (n c : Nat)
inductive FV where
 | no
 | mk (fn : Fn) (first captured : Array Value)
inductive TV where
 | no
 | mk (vs : List Value)
def asB : Value → BV := Value.rec (motive_1 := fun _ => BV) (motive_2 := fun _ => PUnit) (motive_3 := fun _ => PUnit) BV.mk (fun _ _ => .no) (fun _ _ => .no) (fun _ _ _ => .no) (fun _ => .no) (fun _ => .no) (fun _ _ _ => .no) (fun _ => .no) (fun _ => .no) (fun _ _ _ _ _ => .no) .no (fun _ _ _ => .no) .no (fun _ _ => .no) (fun _ _ => .no) (fun _ _ => ⟨⟩) ⟨⟩ (fun _ _ _ _ => ⟨⟩)
def asI : Value → IV := Value.rec (motive_1 := fun _ => IV) (motive_2 := fun _ => PUnit) (motive_3 := fun _ => PUnit) (fun _ => .no) IV.mk (fun _ _ => .no) (fun _ _ _ => .no) (fun _ => .no) (fun _ => .no) (fun _ _ _ => .no) (fun _ => .no) (fun _ => .no) (fun _ _ _ _ _ => .no) .no (fun _ _ _ => .no) .no (fun _ _ => .no) (fun _ _ => .no) (fun _ _ => ⟨⟩) ⟨⟩ (fun _ _ _ _ => ⟨⟩)
def asP : Value → PV := Value.rec (motive_1 := fun _ => PV) (motive_2 := fun _ => PUnit) (motive_3 := fun _ => PUnit) (fun _ => .no) (fun _ _ => .no) (fun _ _ => .no) (fun _ _ _ => .no) (fun _ => .no) (Option.rec .no (Addr.rec fun k off sp => Option.rec (PV.mk k off) (fun _ => .no) sp)) (fun _ _ _ => .no) (fun _ => .no) (fun _ => .no) (fun _ _ _ _ _ => .no) .no (fun _ _ _ => .no) .no (fun _ _ => .no) (fun _ _ => .no) (fun _ _ => ⟨⟩) ⟨⟩ (fun _ _ _ _ => ⟨⟩)
def asA : Value → AV := Value.rec (motive_1 := fun _ => AV) (motive_2 := fun _ => PUnit) (motive_3 := fun _ => PUnit) (fun _ => .no) (fun _ _ => .no) (fun _ _ => .no) (fun _ _ _ => .no) (fun _ => .no) AV.mk (fun _ _ _ => .no) (fun _ => .no) (fun _ => .no) (fun _ _ _ _ _ => .no) .no (fun _ _ _ => .no) .no (fun _ _ => .no) (fun _ _ => .no) (fun _ _ => ⟨⟩) ⟨⟩ (fun _ _ _ _ => ⟨⟩)
def asL : Value → LV := Value.rec (motive_1 := fun _ => LV) (motive_2 := fun _ => PUnit) (motive_3 := fun _ => PUnit) (fun _ => .no) (fun _ _ => .no) (fun _ _ => .no) (fun _ _ _ => .no) (fun _ => .no) (fun _ => .no) LV.mk (fun _ => .no) (fun _ => .no) (fun _ _ _ _ _ => .no) .no (fun _ _ _ => .no) .no (fun _ _ => .no) (fun _ _ => .no) (fun _ _ => ⟨⟩) ⟨⟩ (fun _ _ _ _ => ⟨⟩)
def asF : Value → FV := Value.rec (motive_1 := fun _ => FV) (motive_2 := fun _ => PUnit) (motive_3 := fun _ => PUnit) (fun _ => .no) (fun _ _ => .no) (fun _ _ => .no) (fun _ _ _ => .no) (fun _ => .no) (fun _ => .no) (fun _ _ _ => .no) (fun _ => .no) (fun _ => .no) (fun g a b _ _ => FV.mk g a b) .no (fun _ _ _ => .no) .no (fun _ _ => .no) (fun _ _ => .no) (fun _ _ => ⟨⟩) ⟨⟩ (fun _ _ _ _ => ⟨⟩)
def asT : Value → TV := Value.rec (motive_1 := fun _ => TV) (motive_2 := fun _ => PUnit) (motive_3 := fun _ => PUnit) (fun _ => .no) (fun _ _ => .no) (fun _ _ => .no) (fun _ _ _ => .no) (fun _ => .no) (fun _ => .no) (fun _ _ _ => .no) (fun _ => .no) (fun _ => .no) (fun _ _ _ _ _ => .no) .no (fun _ _ _ => .no) .no (fun _ _ => .no) (fun vs _ => TV.mk vs.toList) (fun _ _ => ⟨⟩) ⟨⟩ (fun _ _ _ _ => ⟨⟩)
theorem Vm {β : Type} (z : β) (f : Nat → Nat → β) (v : Value) : PV.rec (motive := fun _ => β) z f (asP v) = (match v with | .pointer (some ⟨k, off, none⟩) => f k off | _ => z) := by
 cases v with
 | pointer a =>
  cases a with
  | none => rfl
  | some a =>
   obtain ⟨k, off, sp⟩ := a
   cases sp <;> rfl
 | _ => rfl
theorem Jw {β : Type} (z : β) (f : IntKind → Int → β) (v : Value) : IV.rec (motive := fun _ => β) z f (asI v) = (match v with | .int k n => f k n | _ => z) := by cases v <;> rfl
theorem Gp {β : Type} (z : β) (f : Bool → β) (v : Value) : BV.rec (motive := fun _ => β) z f (asB v) = (match v with | .bool b => f b | _ => z) := by cases v <;> rfl
theorem RQ {β : Type} (z : β) (f : Option Addr → Nat → Nat → β) (v : Value) : LV.rec (motive := fun _ => β) z f (asL v) = (match v with | .slice a b c => f a b c | _ => z) := by cases v <;> rfl
theorem LQ {β : Type} (z : β) (f : Fn → Array Value → Array Value → β) (v : Value) : FV.rec (motive := fun _ => β) z f (asF v) = (match v with | .func g a b => f g a b | _ => z) := by cases v <;> rfl
theorem LP {β : Type} (z : β) (f : List Value → β) (v : Value) : TV.rec (motive := fun _ => β) z f (asT v) = (match v with | .tuple vs => f vs.toList | _ => z) := by cases v <;> rfl
theorem Ju {α : Type} (c : Bool) (a b : α) : Bool.rec (motive := fun _ => α) b a c = if c = true then a else b := by cases c <;> rfl
def kcd : IntKind → Nat := IntKind.rec (motive := fun _ => Nat) 0 1 2 3 4 5 6 7
def Ec (a b : IntKind) : Bool := Nat.beq (kcd a) (kcd b)
theorem Nq (a b : IntKind) : Ec a b = decide (a = b) := by cases a <;> cases b <;> rfl
def CZ : IntKind → Nat := IntKind.rec (motive := fun _ => Nat) 256 65536 4294967296 18446744073709551616 256 65536 4294967296 18446744073709551616
def N9 : IntKind → Nat := IntKind.rec (motive := fun _ => Nat) 128 32768 2147483648 9223372036854775808 256 65536 4294967296 18446744073709551616
theorem Ll (k : IntKind) : CZ k = ZU k := by cases k <;> rfl
def Ga (k : IntKind) (m : Nat) : Int := Bool.rec (motive := fun _ => Int) (Zj k (Int.ofNat m)) (Int.ofNat m) (Nat.ble (Nat.succ m) (N9 k))
theorem QM (k : IntKind) (m : Nat) : Ga k m = Zj k (.ofNat m) := by
 show Bool.rec (motive := fun _ => Int) (Zj k (Int.ofNat m)) (Int.ofNat m) (Nat.blt m (N9 k)) = _
 by_cases h : m < N9 k
 · rw [Xd h]
   show Int.ofNat m = _
   have hl : low k (.ofNat m) = m := by
    cases k <;> simp only [N9] at h <;> exact Nat.mod_eq_of_lt (by simp only [ZU]; omega)
   have hb : Qx k = true → Nat.ble (KG k) m = false := by
    intro hs
    cases k <;> simp only [N9] at h <;> first | (cases hs; done) | exact (by rw [Bool.eq_false_iff]; intro hb; have := Nat.le_of_ble_eq_true hb; simp only [KG] at this; omega)
   unfold Zj
   simp only [hl]
   cases hs : Qx k with
   | false => rfl
   | true => rw [hb hs]; rfl
 · rw [Wv h]
inductive Bf where
 | mk (f : Value → Value → Option Value)
def two (op : BinOp) (F : IntKind → Int → Int → Option Value) : Bf :=
 .mk fun x y => IV.rec (motive := fun _ => Option Value) (Zc op x y) (fun k a => IV.rec (motive := fun _ => Option Value) none (fun k' b => Bool.rec (motive := fun _ => Option Value) none (F k a b) (Nat.beq (kcd k) (kcd k'))) (asI y)) (asI x)
def Ey (k : IntKind) (a b : Int) : Option Value := Int.rec (motive := fun _ => Option Value) (fun m => Int.rec (motive := fun _ => Option Value) (fun n => some (.int k (Ga k (Nat.add m n)))) (fun _ => zX .add k a b) b) (fun _ => zX .add k a b) a
def HL (k : IntKind) (a b : Int) : Option Value := Int.rec (motive := fun _ => Option Value) (fun m => Int.rec (motive := fun _ => Option Value) (fun n => Bool.rec (motive := fun _ => Option Value) (zX .sub k a b) (some (.int k (Ga k (Nat.sub m n)))) (Nat.ble n m)) (fun _ => zX .sub k a b) b) (fun _ => zX .sub k a b) a
def Es (k : IntKind) (a b : Int) : Option Value := Int.rec (motive := fun _ => Option Value) (fun m => Int.rec (motive := fun _ => Option Value) (fun n => some (.int k (Ga k (Nat.mul m n)))) (fun _ => zX .mul k a b) b) (fun _ => zX .mul k a b) a
def Ex (k : IntKind) (a b : Int) : Option Value := Int.rec (motive := fun _ => Option Value) (fun m => Int.rec (motive := fun _ => Option Value) (fun n => some (.int k (Ga k (Nat.land (Nat.mod m (CZ k)) (Nat.mod n (CZ k)))))) (fun _ => zX .and k a b) b) (fun _ => zX .and k a b) a
def fOr (k : IntKind) (a b : Int) : Option Value := Int.rec (motive := fun _ => Option Value) (fun m => Int.rec (motive := fun _ => Option Value) (fun n => some (.int k (Ga k (Nat.lor (Nat.mod m (CZ k)) (Nat.mod n (CZ k)))))) (fun _ => zX .or k a b) b) (fun _ => zX .or k a b) a
def Eo (k : IntKind) (a b : Int) : Option Value := Int.rec (motive := fun _ => Option Value) (fun m => Int.rec (motive := fun _ => Option Value) (fun n => some (.int k (Ga k (Nat.xor (Nat.mod m (CZ k)) (Nat.mod n (CZ k)))))) (fun _ => zX .xor k a b) b) (fun _ => zX .xor k a b) a
def HO (k : IntKind) (a b : Int) : Option Value := Int.rec (motive := fun _ => Option Value) (fun m => Int.rec (motive := fun _ => Option Value) (fun n => some (.bool (Nat.beq m n))) (fun _ => zX .eql k a b) b) (fun _ => zX .eql k a b) a
def HN (k : IntKind) (a b : Int) : Option Value := Int.rec (motive := fun _ => Option Value) (fun m => Int.rec (motive := fun _ => Option Value) (fun n => some (.bool (Bool.rec (motive := fun _ => Bool) true false (Nat.beq m n)))) (fun _ => zX .neq k a b) b) (fun _ => zX .neq k a b) a
def Et (k : IntKind) (a b : Int) : Option Value := Int.rec (motive := fun _ => Option Value) (fun m => Int.rec (motive := fun _ => Option Value) (fun n => some (.bool (Nat.ble (Nat.succ m) n))) (fun _ => zX .lss k a b) b) (fun _ => zX .lss k a b) a
def Eu (k : IntKind) (a b : Int) : Option Value := Int.rec (motive := fun _ => Option Value) (fun m => Int.rec (motive := fun _ => Option Value) (fun n => some (.bool (Nat.ble m n))) (fun _ => zX .leq k a b) b) (fun _ => zX .leq k a b) a
def Ev (k : IntKind) (a b : Int) : Option Value := Int.rec (motive := fun _ => Option Value) (fun m => Int.rec (motive := fun _ => Option Value) (fun n => some (.bool (Nat.ble (Nat.succ n) m))) (fun _ => zX .gtr k a b) b) (fun _ => zX .gtr k a b) a
def Ew (k : IntKind) (a b : Int) : Option Value := Int.rec (motive := fun _ => Option Value) (fun m => Int.rec (motive := fun _ => Option Value) (fun n => some (.bool (Nat.ble n m))) (fun _ => zX .geq k a b) b) (fun _ => zX .geq k a b) a
def MK : IntKind → Nat := IntKind.rec (motive := fun _ => Nat) 8 16 32 64 8 16 32 64
theorem MJ (k : IntKind) : MK k = bitsOf k := by cases k <;> rfl
def Lm (k : IntKind) (n : Nat) : Nat := Bool.rec (motive := fun _ => Nat) n (MK k) (Nat.ble (MK k) n)
def Er (k : IntKind) (a b : Int) : Option Value := Int.rec (motive := fun _ => Option Value) (fun m => Int.rec (motive := fun _ => Option Value) (fun n => some (.int k (Ga k (Nat.mul m (Nat.pow 2 (Lm k n)))))) (fun _ => YR .shl k a b) b) (fun _ => YR .shl k a b) a
def Ep (k : IntKind) (a b : Int) : Option Value := Int.rec (motive := fun _ => Option Value) (fun m => Int.rec (motive := fun _ => Option Value) (fun n => some (.int k (Int.ofNat (Nat.div m (Nat.pow 2 (Lm k n)))))) (fun _ => YR .shr k a b) b) (fun _ => YR .shr k a b) a
def shf (op : BinOp) (F : IntKind → Int → Int → Option Value) : Bf :=
 .mk fun x y => IV.rec (motive := fun _ => Option Value) (Zc op x y) (fun k a => IV.rec (motive := fun _ => Option Value) (Zc op x y) (fun _ b => F k a b) (asI y)) (asI x)
def Hl (op : BinOp) : Bf :=
 match op with
 | .add => two .add Ey
 | .sub => two .sub HL
 | .mul => two .mul Es
 | .and => two .and Ex
 | .or => two .or fOr
 | .xor => two .xor Eo
 | .eql => two .eql HO
 | .neq => two .neq HN
 | .lss => two .lss Et
 | .leq => two .leq Eu
 | .gtr => two .gtr Ev
 | .geq => two .geq Ew
 | .shl => shf .shl Er
 | .shr => shf .shr Ep
 | op => .mk (Zc op)
theorem JR (k : IntKind) (a b : Int) (op : BinOp) (g : Nat → Nat → Option Value) (h : ∀ m n, g m n = zX op k (.ofNat m) (.ofNat n)) :
 Int.rec (motive := fun _ => Option Value) (fun m => Int.rec (motive := fun _ => Option Value) (fun n => g m n) (fun _ => zX op k a b) b) (fun _ => zX op k a b) a = zX op k a b := by
 cases a with
 | ofNat m => cases b with
  | ofNat n => exact h m n
  | negSucc n => rfl
 | negSucc m => rfl
theorem Hm (k : IntKind) (a b : Int) (op : BinOp) (g : Nat → Nat → Option Value) (h : ∀ m n, g m n = YR op k (.ofNat m) (.ofNat n)) :
 Int.rec (motive := fun _ => Option Value) (fun m => Int.rec (motive := fun _ => Option Value) (fun n => g m n) (fun _ => YR op k a b) b) (fun _ => YR op k a b) a = YR op k a b := by
 cases a with
 | ofNat m => cases b with
  | ofNat n => exact h m n
  | negSucc n => rfl
 | negSucc m => rfl
theorem Dn (a b : IntKind) : Nat.beq (kcd a) (kcd b) = decide (a = b) := Nq a b
theorem W7 {op : BinOp} {F : IntKind → Int → Int → Option Value} (h1 : op ≠ .shl) (h2 : op ≠ .shr) (h : ∀ k a b, F k a b = zX op k a b) : two op F = .mk (Zc op) := by
 refine congrArg Bf.mk (funext fun x => funext fun y => ?_)
 rw [Jw]
 cases x with
 | int k a =>
  simp only [Jw]
  cases y with
  | int k' b =>
   simp only [h, Dn, Ju]
   have : Zc op (.int k a) (.int k' b) = if k = k' then zX op k a b else none := by
    cases op <;> first | rfl | exact absurd rfl h1 | exact absurd rfl h2
   rw [this]
   by_cases e : k = k' <;> simp [e]
  | _ => rfl
 | _ => rfl
theorem No {op : BinOp} {F : IntKind → Int → Int → Option Value} (h : ∀ k k' a b, F k a b = Zc op (.int k a) (.int k' b)) : shf op F = .mk (Zc op) := by
 refine congrArg Bf.mk (funext fun x => funext fun y => ?_)
 rw [Jw]
 cases x with
 | int k a =>
  simp only [Jw]
  cases y with
  | int k' b => exact h k k' a b
  | _ => rfl
 | _ => rfl
theorem Rn (k : IntKind) (n : Nat) : Lm k n = if Nat.ble (bitsOf k) n then bitsOf k else n := by
 unfold Lm
 rw [MJ, Ju]
theorem Dv (n : Nat) : ¬ (Int.ofNat n < 0) := by simp only [Int.ofNat_eq_natCast]; omega
theorem LG (k : IntKind) (a b : Int) : Ey k a b = zX .add k a b := JR k a b .add _ fun m n => by rw [QM]; rfl
theorem Lx (k : IntKind) (a b : Int) : HL k a b = zX .sub k a b := by
 unfold HL
 cases a with
 | ofNat m => cases b with
  | ofNat n =>
   show Bool.rec (motive := fun _ => Option Value) (zX .sub k (.ofNat m) (.ofNat n)) (some (.int k (Ga k (Nat.sub m n)))) (Nat.ble n m) = _
   cases h : Nat.ble n m with
   | false => rfl
   | true =>
    have hle := Nat.le_of_ble_eq_true h
    have e : (Int.ofNat m - Int.ofNat n) = Int.ofNat (m - n) := by simp only [Int.ofNat_eq_natCast]; omega
    show some (Value.int k (Ga k (m - n))) = some (.int k (Zj k (Int.ofNat m - Int.ofNat n)))
    rw [QM, e]
  | negSucc n => rfl
 | negSucc m => rfl
theorem LA (k : IntKind) (a b : Int) : Es k a b = zX .mul k a b := JR k a b .mul _ fun m n => by rw [QM]; rfl
theorem Kg (k : IntKind) (m : Nat) : low k (.ofNat m) = Nat.mod m (CZ k) := by rw [Ll]; rfl
theorem LF (k : IntKind) (a b : Int) : Ex k a b = zX .and k a b := JR k a b .and _ fun m n => by rw [QM, ← Kg, ← Kg]; rfl
theorem HM (k : IntKind) (a b : Int) : fOr k a b = zX .or k a b := JR k a b .or _ fun m n => by rw [QM, ← Kg, ← Kg]; rfl
theorem Lw (k : IntKind) (a b : Int) : Eo k a b = zX .xor k a b := JR k a b .xor _ fun m n => by rw [QM, ← Kg, ← Kg]; rfl
theorem RP (m n : Nat) : Nat.beq m n = decide (Int.ofNat m = Int.ofNat n) := by
 rw [Bool.eq_iff_iff, decide_eq_true_iff]
 constructor
 · intro h; rw [Nat.eq_of_beq_eq_true h]
 · intro h; cases h; exact Nat.beq_refl _
theorem RA (k : IntKind) (a b : Int) : HO k a b = zX .eql k a b := JR k a b .eql _ fun m n => by rw [RP]; rfl
theorem Rz (k : IntKind) (a b : Int) : HN k a b = zX .neq k a b := JR k a b .neq _ fun m n => by
 rw [RP]
 show some (Value.bool (Bool.rec (motive := fun _ => Bool) true false (decide (Int.ofNat m = Int.ofNat n)))) = some (.bool (!decide (Int.ofNat m = Int.ofNat n)))
 cases decide (Int.ofNat m = Int.ofNat n) <;> rfl
theorem RN (m n : Nat) : Nat.blt m n = decide (Int.ofNat m < Int.ofNat n) := by
 rw [Bool.eq_iff_iff, decide_eq_true_iff, Yv]; simp only [Int.ofNat_eq_natCast]; omega
theorem RO (m n : Nat) : Nat.ble m n = decide (Int.ofNat m ≤ Int.ofNat n) := by
 rw [Bool.eq_iff_iff, decide_eq_true_iff, Nat.ble_eq]; simp only [Int.ofNat_eq_natCast]; omega
theorem LB (k : IntKind) (a b : Int) : Et k a b = zX .lss k a b := JR k a b .lss _ fun m n => by
 show some (Value.bool (Nat.blt m n)) = _
 rw [RN]; rfl
theorem LC (k : IntKind) (a b : Int) : Eu k a b = zX .leq k a b := JR k a b .leq _ fun m n => by rw [RO]; rfl
theorem LD (k : IntKind) (a b : Int) : Ev k a b = zX .gtr k a b := JR k a b .gtr _ fun m n => by
 show some (Value.bool (Nat.blt n m)) = _
 rw [RN]; rfl
theorem LE (k : IntKind) (a b : Int) : Ew k a b = zX .geq k a b := JR k a b .geq _ fun m n => by rw [RO]; rfl
theorem Lz (k k' : IntKind) (a b : Int) : Er k a b = Zc .shl (.int k a) (.int k' b) := Hm k a b .shl _ fun m n => by
 rw [QM, Rn]
 simp only [YR, Dv, if_false]
 rfl
theorem Tm (m p : Nat) : Int.fdiv (.ofNat m) (.ofNat p) = .ofNat (m / p) := by
 cases m with
 | zero => simp [Int.fdiv]
 | succ m => rfl
theorem Ly (k k' : IntKind) (a b : Int) : Ep k a b = Zc .shr (.int k a) (.int k' b) := Hm k a b .shr _ fun m n => by
 rw [Rn]
 simp only [YR, Dv, if_false]
 exact congrArg (fun z => some (Value.int k z)) (Tm _ _).symm
theorem NY (op : BinOp) : Hl op = .mk (Zc op) := by
 cases op <;> first
  | rfl
  | exact W7 (by simp) (by simp) LG
  | exact W7 (by simp) (by simp) Lx
  | exact W7 (by simp) (by simp) LA
  | exact W7 (by simp) (by simp) LF
  | exact W7 (by simp) (by simp) HM
  | exact W7 (by simp) (by simp) Lw
  | exact W7 (by simp) (by simp) RA
  | exact W7 (by simp) (by simp) Rz
  | exact W7 (by simp) (by simp) LB
  | exact W7 (by simp) (by simp) LC
  | exact W7 (by simp) (by simp) LD
  | exact W7 (by simp) (by simp) LE
  | exact No Lz
  | exact No Ly
inductive Rd where
 | mk (f : PT Value → Value)
def orU (o : Option Value) : Value := Option.rec Zt (fun v => v) o
def rd (x : Operand) : Rd := Operand.rec (motive := fun _ => Rd) (fun i => Rdx.rec (fun f => Rd.mk fun t => orU (f t)) (rdx i)) (fun v => Rd.mk fun _ => v) (fun _ => Rd.mk fun _ => Zt) (fun f => Rd.mk fun _ => .func (.func f) #[] #[]) x
theorem SX (x : Operand) : rd x = .mk fun t => ev t x := by
 cases x with
 | tmp i =>
  show Rdx.rec (motive := fun _ => Rd) (fun f => Rd.mk fun t => orU (f t)) (rdx i) = _
  rw [GQ]
  refine congrArg Rd.mk (funext fun t => ?_)
  show orU (t.get i) = (t.get i).getD Zt
  cases t.get i <;> rfl
 | const v => rfl
 | global g => rfl
 | func f => rfl
inductive La where
 | mk (f : PT Value → List Value)
def la (xs : List Operand) : La := List.rec (motive := fun _ => La) (La.mk fun _ => []) (fun x _ ih => Rd.rec (fun f => La.rec (fun g => La.mk fun t => f t :: g t) ih) (rd x)) xs
theorem Mb : ∀ xs : List Operand, la xs = .mk fun t => xs.map (ev t)
 | [] => rfl
 | x :: xs => by
  show Rd.rec (motive := fun _ => La) (fun f => La.rec (motive := fun _ => La) (fun g => La.mk fun t => f t :: g t) (la xs)) (rd x) = _
  rw [SX, Mb xs]
  rfl
def Fu {β : Type} (f : Nat → β) (n : Nat) : β := Nat.rec (motive := fun _ => β) (f 0) (fun m _ => f (Nat.succ m)) n
theorem Km {β : Type} (f : Nat → β) (n : Nat) : Fu f n = f n := by cases n <;> rfl
def hp (s : DS) (k : Nat) : Option DObj := DS.rec (motive := fun _ => Option DObj) (fun h n v w => Bool.rec (motive := fun _ => Option DObj) none (Bool.rec (motive := fun _ => Option DObj) none (Rdx.rec (motive := fun _ => Option DObj) (fun f => f h) (rdx k)) (v k)) (Nat.ble (Nat.succ k) n)) s
theorem VU (s : DS) (k : Nat) : hp s k = s.get k := by
 unfold hp DS.get
 rw [GQ]
 show Bool.rec (motive := fun _ => Option DObj) none (Bool.rec (motive := fun _ => Option DObj) none (s.heap.get k) (s.vis k)) (Nat.blt k s.next) = _
 cases Nat.blt k s.next <;> cases s.vis k <;> rfl
inductive Nt where
 | mk (f : List Value → Option Value)
def nth (i : Nat) : Nt := Nat.rec (motive := fun _ => Nt) (Nt.mk (List.rec none fun x _ _ => some x)) (fun _ ih => Nt.rec (fun f => Nt.mk (List.rec none fun _ l _ => f l)) ih) i
theorem Fc : ∀ i : Nat, nth i = .mk fun l => getN l i
 | 0 => congrArg Nt.mk (funext fun l => by cases l <;> rfl)
 | i + 1 => by
  show Nt.rec (motive := fun _ => Nt) (fun f => Nt.mk (List.rec none fun _ l _ => f l)) (nth i) = _
  rw [Fc i]
  exact congrArg Nt.mk (funext fun l => by cases l <;> rfl)
inductive Ns where
 | mk (f : Value → List Value → List Value)
def Si (i : Nat) : Ns := Nat.rec (motive := fun _ => Ns) (Ns.mk fun v => List.rec [] fun _ l _ => v :: l) (fun _ ih => Ns.rec (fun f => Ns.mk fun v => List.rec [] fun x l _ => x :: f v l) ih) i
theorem Gl : ∀ i : Nat, Si i = .mk fun v l => Zb l i v
 | 0 => congrArg Ns.mk (funext fun v => funext fun l => by cases l <;> rfl)
 | i + 1 => by
  show Ns.rec (motive := fun _ => Ns) (fun f => Ns.mk fun v => List.rec [] fun x l _ => x :: f v l) (Si i) = _
  rw [Gl i]
  exact congrArg Ns.mk (funext fun v => funext fun l => by cases l <;> rfl)
def Hv (c : Cells) (i : Nat) : Option Value :=
 Cells.rec (motive := fun _ => Option Value) (fun l => Nt.rec (motive := fun _ => Option Value) (fun f => f l) (nth i)) (fun n z t => Bool.rec (motive := fun _ => Option Value) none (some (Option.rec (motive := fun _ => Value) z (fun v => v) (Rdx.rec (motive := fun _ => Option Value) (fun f => f t) (rdx i)))) (Nat.ble (Nat.succ i) n)) (fun l => Nt.rec (motive := fun _ => Option Value) (fun f => f l) (nth i)) c
theorem SM (c : Cells) (i : Nat) : Hv c i = c.get i := by
 cases c with
 | list l => show Nt.rec (motive := fun _ => Option Value) (fun f => f l) (nth i) = _; rw [Fc]; rfl
 | str l => show Nt.rec (motive := fun _ => Option Value) (fun f => f l) (nth i) = _; rw [Fc]; rfl
 | tree n z t =>
  show Bool.rec (motive := fun _ => Option Value) none (some (Option.rec (motive := fun _ => Value) z (fun v => v) (Rdx.rec (motive := fun _ => Option Value) (fun f => f t) (rdx i)))) (Nat.blt i n) = if i < n then some ((t.get i).getD z) else none
  rw [GQ]
  by_cases h : i < n
  · rw [Xd h, if_pos h]
    show some (Option.rec (motive := fun _ => Value) z (fun v => v) (t.get i)) = _
    cases t.get i <;> rfl
  · rw [Wv h, if_neg h]
def H1 (c : Cells) (i : Nat) (v : Value) : Cells :=
 Cells.rec (motive := fun _ => Cells) (fun l => .list (Ns.rec (motive := fun _ => List Value) (fun f => f v l) (Si i))) (fun n z t => .tree n z (Bool.rec (motive := fun _ => PT Value) t (Wr.rec (motive := fun _ => PT Value) (fun w => w (some v) t) (wrs i)) (Nat.ble (Nat.succ i) n))) (fun l => .str (Ns.rec (motive := fun _ => List Value) (fun f => f v l) (Si i))) c
theorem MT (c : Cells) (i : Nat) (v : Value) : H1 c i v = c.set i v := by
 cases c with
 | list l => show Cells.list (Ns.rec (motive := fun _ => List Value) (fun f => f v l) (Si i)) = _; rw [Gl]; rfl
 | str l => show Cells.str (Ns.rec (motive := fun _ => List Value) (fun f => f v l) (Si i)) = _; rw [Gl]; rfl
 | tree n z t =>
  show Cells.tree n z (Bool.rec (motive := fun _ => PT Value) t (Wr.rec (motive := fun _ => PT Value) (fun w => w (some v) t) (wrs i)) (Nat.blt i n)) = .tree n z (if i < n then t.put i (some v) else t)
  rw [Vr]
  by_cases h : i < n
  · rw [Xd h, if_pos h]
  · rw [Wv h, if_neg h]
def V7 (s : DS) (o : DObj) : DS := DS.rec (motive := fun _ => DS) (fun h n v w => Fu (fun n => DS.mk (Wr.rec (motive := fun _ => PT DObj) (fun f => f (some o) h) (wrs n)) (Nat.succ n) v w) n) s
theorem Ji (s : DS) (o : DObj) : V7 s o = s.new o := by
 unfold V7
 cases s
 simp only [Km, Vr]
 rfl
inductive XOp where
 | tot (f : PT Value → Value)
 | val (f : PT Value → DS → Option Value)
 | eff (f : PT Value → DS → Option DS)
 | neu (f : PT Value → DObj)
 | act (f : Zg → PT Value → DS → Option (Value × DS))
def XOp.go (o : XOp) (call : Zg) (t : PT Value) (s : DS) : Option (Value × DS) :=
 XOp.rec (motive := fun _ => Option (Value × DS)) (fun f => some (f t, s)) (fun f => Option.rec none (fun v => some (v, s)) (f t s)) (fun f => Option.rec none (fun s' => some (Zt, s')) (f t s))
  (fun f => some (.pointer (some ⟨s.next, 0, none⟩), V7 s (f t))) (fun f => f call t s) o
def asN (v : Value) : Option Nat := IV.rec (motive := fun _ => Option Nat) none (fun _ a => Int.rec (motive := fun _ => Option Nat) (fun n => some n) (fun _ => none) a) (asI v)
theorem MM (v : Value) : asN v = Yk v := by
 unfold asN
 rw [Jw]
 cases v with
 | int k a => cases a <;> rfl
 | _ => rfl
def lt1 (x : Operand) (F : (PT Value → Value) → XOp) : XOp := Rd.rec F (rd x)
theorem Yt (x : Operand) (F : (PT Value → Value) → XOp) : lt1 x F = F fun t => ev t x := by unfold lt1; rw [SX]
def FJ {β : Type} (z : β) (f : Cells → Bool → β) (o : Option DObj) : β := Option.rec z (DObj.rec f (fun _ _ => z) (fun _ _ _ _ => z) (fun _ _ _ _ _ _ => z) z) o
theorem Kp {β : Type} (z : β) (f : Cells → Bool → β) (o : Option DObj) : FJ z f o = (match o with | some (.cells c ro) => f c ro | _ => z) := by
 cases o with
 | none => rfl
 | some o => cases o <;> rfl
def xld (v : Value) (s : DS) : Option Value := PV.rec (motive := fun _ => Option Value) none (fun k off => FJ none (fun c _ => Fu (fun off => Hv c off) off) (hp s k)) (asP v)
theorem Hu (ρ : Operand → Value) (s : DS) (a : Operand) : xld (ρ a) s = zZ ρ s (.ld none a) := by
 simp only [xld, Vm, Km, Kp, VU, SM, zZ]
 generalize ρ a = A
 cases A with
 | pointer p =>
  cases p with
  | none => rfl
  | some ad =>
   obtain ⟨k, off, sp⟩ := ad
   cases sp with
   | some z => rfl
   | none =>
    dsimp only
    cases s.get k with
    | none => rfl
    | some ob => cases ob <;> rfl
 | _ => rfl
def Py : Value → Bool :=
 Value.rec (motive_1 := fun _ => Bool) (motive_2 := fun _ => PUnit) (motive_3 := fun _ => PUnit) (fun _ => true) (fun _ _ => true) (fun _ _ => true) (fun _ _ _ => true) (fun _ => true) (fun _ => true) (fun _ _ _ => true) (fun _ => true) (fun _ => true)
  (fun _ _ _ _ _ => true) true (fun _ _ _ => true) true (fun _ _ => false) (fun _ _ => false) (fun _ _ => ⟨⟩) ⟨⟩ (fun _ _ _ _ => ⟨⟩)
def K1 (size : Nat) (a v : Value) (s : DS) : Option DS :=
 match a with
 | .pointer (some ⟨k, off, none⟩) =>
  let cs := v.cells.toList
  if Nat.beq cs.length size && zL cs then s.write k off cs else none
 | _ => none
def R6 (s : DS) (k : Nat) (o : DObj) : Option DS := DS.rec (motive := fun _ => Option DS) (fun h n vis wr => Bool.rec (motive := fun _ => Option DS) none (some (DS.mk (Wr.rec (motive := fun _ => PT DObj) (fun f => f (some o) h) (wrs k)) n vis wr)) (wr k)) s
theorem Ge (s : DS) (k : Nat) (o : DObj) : R6 s k o = s.set k o := by
 unfold R6 DS.set
 rw [Vr]
 show Bool.rec (motive := fun _ => Option DS) none (some (DS.mk (s.heap.put k (some o)) s.next s.vis s.wr)) (s.wr k) = _
 cases s.wr k <;> rfl
def Hs (a v : Value) (s : DS) : Option DS :=
 Bool.rec (motive := fun _ => Option DS) (K1 1 a v s)
  (PV.rec (motive := fun _ => Option DS) none (fun k off => FJ none (fun c ro => Bool.rec (motive := fun _ => Option DS) (Fu (fun off => Option.rec (motive := fun _ => Option DS) none (fun _ => R6 s k (.cells (H1 c off v) false)) (Hv c off)) off) none ro) (hp s k)) (asP a)) (Py v)
end
end Go.Dx
set_option linter.unusedVariables false
set_option linter.unusedSimpArgs false
set_option linter.unusedSectionVars false
namespace Go.Dx
open Go
noncomputable section
theorem Sh {v : Value} (h : Py v = true) : v.cells.toList = [v] ∧ zH v = true := by
 cases v <;> first | exact ⟨rfl, rfl⟩ | cases h
theorem GD : ∀ (l : List Value) (i : Nat), (getN l i).isSome = Nat.ble (i + 1) l.length
 | [], i => rfl
 | x :: l, 0 => rfl
 | x :: l, i + 1 => GD l i
theorem Rt (c : Cells) (i : Nat) : (c.get i).isSome = Nat.ble (i + 1) c.size := by
 cases c with
 | list l => exact GD l i
 | str l => exact GD l i
 | tree n z t =>
  show (if i < n then some ((t.get i).getD z) else none).isSome = Nat.blt i n
  by_cases h : i < n
  · rw [if_pos h, Xd h]; rfl
  · rw [if_neg h, Wv h]; rfl
theorem MR (a v : Value) (s : DS) : Hs a v s = K1 1 a v s := by
 unfold Hs
 cases h : Py v with
 | false => rfl
 | true =>
  show PV.rec (motive := fun _ => Option DS) none _ (asP a) = _
  rw [Vm]
  obtain ⟨h1, h2⟩ := Sh h
  cases a with
  | pointer p =>
   cases p with
   | none => rfl
   | some ad =>
    obtain ⟨k, off, sp⟩ := ad
    cases sp with
    | some z => rfl
    | none =>
     have hc : (Nat.beq v.cells.toList.length 1 && zL v.cells.toList) = true := by
      rw [h1]; simp only [List.length_singleton, zL, h2]; rfl
     simp only [K1, hc, if_true, Km, Kp, VU, SM, MT, Ge]
     unfold DS.write
     rw [h1]
     cases s.get k with
     | none => rfl
     | some ob =>
      cases ob with
      | cells c ro =>
       cases ro with
       | true => rfl
       | false =>
        have hp := Rt c off
        show Option.rec (motive := fun _ => Option DS) none (fun _ => s.set k (.cells (c.set off v) false)) (c.get off) = if Nat.ble (off + 1) c.size = true then s.set k (.cells (c.set off v) false) else none
        rw [← hp]
        cases c.get off <;> rfl
      | _ => rfl
  | _ => rfl
def V9 (l : List Value) : Nat := List.rec (motive := fun _ => Nat) 0 (fun _ _ ih => Nat.succ ih) l
theorem Qg : ∀ l : List Value, V9 l = l.length
 | [] => rfl
 | _ :: l => congrArg Nat.succ (Qg l)
def SH (l : List Value) : Bool := List.rec (motive := fun _ => Bool) true (fun v _ ih => Bool.rec (motive := fun _ => Bool) false ih (Py v)) l
theorem Lf (v : Value) : Py v = zH v := by cases v <;> rfl
theorem Gr : ∀ l : List Value, SH l = zL l
 | [] => rfl
 | v :: l => by
  show Bool.rec (motive := fun _ => Bool) false (SH l) (Py v) = (zH v && zL l)
  rw [Lf, Gr l]
  cases zH v <;> rfl
def Tq (n : Nat) : List Value → List Value := Nat.rec (motive := fun _ => List Value → List Value) (fun l => l) (fun _ ih l => List.rec (motive := fun _ => List Value) [] (fun _ t _ => ih t) l) n
theorem FD : ∀ (n : Nat) (l : List Value), Tq n l = l.drop n
 | 0, _ => rfl
 | n + 1, [] => rfl
 | n + 1, _ :: l => FD n l
def tkX (n : Nat) : List Value → Option (List Value) := Nat.rec (motive := fun _ => List Value → Option (List Value)) (fun _ => some []) (fun _ ih l => List.rec (motive := fun _ => Option (List Value)) none (fun x t _ => Option.rec (motive := fun _ => Option (List Value)) none (fun r => some (x :: r)) (ih t)) l) n
theorem Dz : ∀ (l : List Value) (off : Nat), getN l off = (l.drop off).head?
 | [], off => by simp [getN]
 | x :: l, 0 => rfl
 | x :: l, off + 1 => Dz l off
theorem TY (c : Cells) (l : List Value) (hc : ∀ i, c.get i = getN l i) : ∀ (n off : Nat), tkX n (l.drop off) = c.take off n
 | 0, _ => rfl
 | n + 1, off => by
  simp only [Cells.take, hc, Dz]
  cases hd : l.drop off with
  | nil => rfl
  | cons x t =>
   have ht : t = l.drop (off + 1) := by
    rw [← List.drop_drop, hd]; rfl
   show Option.rec (motive := fun _ => Option (List Value)) none (fun r => some (x :: r)) (tkX n t) = (match c.take (off + 1) n with | none => none | some l => some (x :: l))
   rw [ht, TY c l hc n (off + 1)]
   cases c.take (off + 1) n <;> rfl
def P0 (c : Cells) (off n : Nat) : Option (List Value) := Cells.rec (motive := fun _ => Option (List Value)) (fun l => tkX n (Tq off l)) (fun _ _ _ => c.take off n) (fun l => tkX n (Tq off l)) c
theorem Cr (c : Cells) (off n : Nat) : P0 c off n = c.take off n := by
 cases c with
 | list l => show tkX n (Tq off l) = _; rw [FD]; exact TY _ l (fun _ => rfl) n off
 | str l => show tkX n (Tq off l) = _; rw [FD]; exact TY _ l (fun _ => rfl) n off
 | tree m z t => rfl
def Ej (vs : List Value) : List Value → List Value := List.rec (motive := fun _ => List Value → List Value) (fun l => l) (fun v _ ih l => List.rec (motive := fun _ => List Value) [] (fun _ t _ => v :: ih t) l) vs
def Fy (off : Nat) (vs : List Value) : List Value → List Value := Nat.rec (motive := fun _ => List Value → List Value) (Ej vs) (fun _ ih l => List.rec (motive := fun _ => List Value) [] (fun x t _ => x :: ih t) l) off
theorem VB : ∀ (off : Nat) (l : List Value), Fy off [] l = l
 | 0, _ => rfl
 | off + 1, [] => rfl
 | off + 1, x :: l => congrArg (x :: ·) (VB off l)
theorem KI : ∀ (off : Nat) (v : Value) (vs l : List Value), Fy off (v :: vs) l = Fy (off + 1) vs (Zb l off v)
 | 0, v, vs, [] => by cases vs <;> rfl
 | 0, v, vs, x :: l => rfl
 | off + 1, v, vs, [] => rfl
 | off + 1, v, vs, x :: l => congrArg (x :: ·) (KI off v vs l)
theorem Fx : ∀ (vs : List Value) (off : Nat) (l : List Value), Cells.list (Fy off vs l) = (Cells.list l).fillFrom off vs
 | [], off, l => by rw [VB]; rfl
 | v :: vs, off, l => by rw [KI]; exact Fx vs (off + 1) _
theorem DE : ∀ (vs : List Value) (off : Nat) (l : List Value), Cells.str (Fy off vs l) = (Cells.str l).fillFrom off vs
 | [], off, l => by rw [VB]; rfl
 | v :: vs, off, l => by rw [KI]; exact DE vs (off + 1) _
def Hc (c : Cells) (off : Nat) (vs : List Value) : Cells := Cells.rec (motive := fun _ => Cells) (fun l => .list (Fy off vs l)) (fun _ _ _ => c.fillFrom off vs) (fun l => .str (Fy off vs l)) c
theorem P4 (c : Cells) (off : Nat) (vs : List Value) : Hc c off vs = c.fillFrom off vs := by
 cases c with
 | list l => exact Fx vs off l
 | str l => exact DE vs off l
 | tree m z t => rfl
def L9 (c : Cells) : Nat := Cells.rec (motive := fun _ => Nat) V9 (fun n _ _ => n) V9 c
theorem P1 (c : Cells) : L9 c = c.size := by
 cases c with
 | list l => exact Qg l
 | str l => exact Qg l
 | tree m z t => rfl
def De (s : DS) (k off n : Nat) : Option (List Value) := FJ none (fun c _ => P0 c off n) (hp s k)
theorem JD (s : DS) (k off n : Nat) : De s k off n = s.read k off n := by
 unfold De DS.read
 simp only [Kp, VU, Cr]
 cases s.get k with
 | none => rfl
 | some ob => cases ob <;> rfl
def Gv (s : DS) (k off : Nat) (l : List Value) : Option DS :=
 FJ none (fun c ro => Bool.rec (motive := fun _ => Option DS) (Bool.rec (motive := fun _ => Option DS) none (R6 s k (.cells (Hc c off l) false)) (Nat.ble (Nat.add off (V9 l)) (L9 c))) none ro) (hp s k)
theorem Vq (s : DS) (k off : Nat) (l : List Value) : Gv s k off l = s.write k off l := by
 unfold Gv DS.write
 simp only [Kp, VU, P4, Ge, P1, Qg, Ju]
 cases s.get k with
 | none => rfl
 | some ob =>
  cases ob with
  | cells c ro => cases ro <;> rfl
  | _ => rfl
def LS (l r : List Value) : List Value := List.rec (motive := fun _ => List Value) l (fun _ _ _ => l ++ r) r
theorem LR (l r : List Value) : LS l r = l ++ r := by
 cases r with
 | nil => exact (List.append_nil l).symm
 | cons x r => rfl
def PS (l r : List Value) : List Value := List.rec (motive := fun _ => List Value) r (fun x _ ih => x :: ih) l
theorem RR (l r : List Value) : PS l r = l ++ r := by
 induction l with
 | nil => rfl
 | cons x l ih => exact congrArg (x :: ·) ih
def evX (t : PT Value) (x : Operand) : Value := Rd.rec (motive := fun _ => Value) (fun f => f t) (rd x)
theorem Cg (t : PT Value) : evX t = ev t := by
 funext x
 unfold evX
 rw [SX]
def CD (n : Nat) (k : List Value → Option (List Value)) : List Value → Option (List Value) :=
 Nat.rec (motive := fun _ => List Value → Option (List Value)) k (fun _ ih zs => List.rec (motive := fun _ => Option (List Value)) none (fun z t _ => Option.rec (motive := fun _ => Option (List Value)) none (fun r => some (z :: r)) (ih t)) zs) n
def CS (vs : List Value) (k : List Value → Option (List Value)) : List Value → Option (List Value) :=
 List.rec (motive := fun _ => List Value → Option (List Value)) k (fun v _ ih zs => List.rec (motive := fun _ => Option (List Value)) none (fun _ t _ => Option.rec (motive := fun _ => Option (List Value)) none (fun r => some (v :: r)) (ih t)) zs) vs
def Ry (ρ : Operand → Value) (parts : List (Nat × Nat × Operand)) : Nat → List Value → Option (List Value) :=
 List.rec (motive := fun _ => Nat → List Value → Option (List Value)) (fun _ zs => some zs)
  (fun p _ ih pos zs => Bool.rec (motive := fun _ => Option (List Value)) none (Bool.rec (motive := fun _ => Option (List Value)) none
   (CD (Nat.sub p.1 pos) (CS (ρ p.2.2).cells.toList (ih (Nat.add p.1 p.2.1))) zs) (Nat.beq (V9 (ρ p.2.2).cells.toList) p.2.1)) (Nat.ble pos p.1)) parts
theorem GC : ∀ (n : Nat) (k : List Value → Option (List Value)) (zs r : List Value), CD n k zs = some r → ∃ a t r', zs = a ++ t ∧ a.length = n ∧ k t = some r' ∧ r = a ++ r'
 | 0, k, zs, r, h => ⟨[], zs, r, rfl, rfl, h, rfl⟩
 | n + 1, k, [], r, h => by cases h
 | n + 1, k, z :: zs, r, h => by
  have h : Option.rec (motive := fun _ => Option (List Value)) none (fun r => some (z :: r)) (CD n k zs) = some r := h
  cases h1 : CD n k zs with
  | none => rw [h1] at h; cases h
  | some r1 =>
   rw [h1] at h
   cases h
   obtain ⟨a, t, r', rfl, hl, hk, rfl⟩ := GC n k zs r1 h1
   exact ⟨z :: a, t, r', rfl, congrArg Nat.succ hl, hk, rfl⟩
theorem G9 : ∀ (vs : List Value) (k : List Value → Option (List Value)) (zs r : List Value), CS vs k zs = some r → ∃ a t r', zs = a ++ t ∧ a.length = vs.length ∧ k t = some r' ∧ r = vs ++ r'
 | [], k, zs, r, h => ⟨[], zs, r, rfl, rfl, h, rfl⟩
 | v :: vs, k, [], r, h => by cases h
 | v :: vs, k, z :: zs, r, h => by
  have h : Option.rec (motive := fun _ => Option (List Value)) none (fun r => some (v :: r)) (CS vs k zs) = some r := h
  cases h1 : CS vs k zs with
  | none => rw [h1] at h; cases h
  | some r1 =>
   rw [h1] at h
   cases h
   obtain ⟨a, t, r', rfl, hl, hk, rfl⟩ := G9 vs k zs r1 h1
   exact ⟨z :: a, t, r', rfl, congrArg Nat.succ hl, hk, rfl⟩
theorem Fz (ρ : Operand → Value) : ∀ (parts : List (Nat × Nat × Operand)) (pos : Nat) (zs r pre : List Value), Ry ρ parts pos zs = some r → pre.length = pos → zM ρ (pre ++ zs) parts = some (pre ++ r)
 | [], pos, zs, r, pre, h, hp => by cases h; rfl
 | (off, size, x) :: rest, pos, zs, r, pre, h, hp => by
  have h : Bool.rec (motive := fun _ => Option (List Value)) none (Bool.rec (motive := fun _ => Option (List Value)) none
   (CD (Nat.sub off pos) (CS (ρ x).cells.toList (Ry ρ rest (Nat.add off size))) zs) (Nat.beq (V9 (ρ x).cells.toList) size)) (Nat.ble pos off) = some r := h
  cases h1 : Nat.ble pos off with
  | false => rw [h1] at h; cases h
  | true =>
   rw [h1] at h
   cases h2 : Nat.beq (V9 (ρ x).cells.toList) size with
   | false => rw [h2] at h; cases h
   | true =>
    rw [h2] at h
    obtain ⟨a, t, r', rfl, hl, hk, rfl⟩ := GC _ _ _ _ h
    obtain ⟨b, t', r'', rfl, hl', hk', rfl⟩ := G9 _ _ _ _ hk
    have hle := Nat.le_of_ble_eq_true h1
    have hsz := Nat.eq_of_beq_eq_true h2
    rw [Qg] at hsz h2
    have hoff : (pre ++ a).length = off := by rw [List.length_append, hp, hl]; show pos + (off - pos) = off; omega
    have hb : b.length = size := hl'.trans hsz
    simp only [zM]
    have hcond : (Nat.beq (ρ x).cells.toList.length size && Nat.ble (off + size) (pre ++ (a ++ (b ++ t'))).length) = true := by
     rw [h2]
     simp only [Bool.true_and, Nat.ble_eq, List.length_append]
     rw [List.length_append] at hoff
     omega
    rw [if_pos hcond]
    have e1 : (pre ++ (a ++ (b ++ t'))).take off = pre ++ a := by
     rw [← List.append_assoc, ← hoff, List.take_left]
    have e2 : (pre ++ (a ++ (b ++ t'))).drop (off + size) = t' := by
     have : pre ++ (a ++ (b ++ t')) = (pre ++ a ++ b) ++ t' := by simp [List.append_assoc]
     rw [this]
     have hlen : (pre ++ a ++ b).length = off + size := by rw [List.length_append, hoff, hb]
     rw [← hlen, List.drop_left]
    rw [e1, e2]
    have := Fz ρ rest (off + size) t' r'' (pre ++ a ++ (ρ x).cells.toList) hk' (by rw [List.length_append, hoff, hsz])
    simpa [List.append_assoc] using this
def DT (ρ : Operand → Value) (z : List Value) (parts : List (Nat × Nat × Operand)) : Option (List Value) := Option.rec (motive := fun _ => Option (List Value)) (zM ρ z parts) (fun r => some r) (Ry ρ parts 0 z)
theorem Dh (ρ : Operand → Value) (z : List Value) (parts : List (Nat × Nat × Operand)) : DT ρ z parts = zM ρ z parts := by
 unfold DT
 cases h : Ry ρ parts 0 z with
 | none => rfl
 | some r => exact (Fz ρ parts 0 z r [] h rfl).symm
def MS (s : DS) (size : Nat) (x : Value) (n : Nat) : Option (List Value) :=
 match x with
 | .slice none _ _ => some []
 | .slice (some ⟨k, off, _⟩) _ _ => De s k off (n * size)
 | .string b => some ((b.data.toList.take n).map fun c => .int .u8 c.toNat)
 | _ => none
theorem SL (s : DS) (size : Nat) (x : Value) (n : Nat) : MS s size x n = Xm s size x n := by
 unfold MS Xm
 simp only [JD]
 cases x with
 | slice a l c =>
  cases a with
  | none => rfl
  | some ad => obtain ⟨k, o, sp⟩ := ad; rfl
 | _ => rfl
def Nu (v : Value) : Option Value := BV.rec (motive := fun _ => Option Value) none (fun b => some (.bool (Bool.rec (motive := fun _ => Bool) true false b))) (asB v)
def T8 (c a b : Value) : Option Value := BV.rec (motive := fun _ => Option Value) none (fun c => some (Bool.rec (motive := fun _ => Value) b a c)) (asB c)
def DY (k : IntKind) (v : Value) : Option Value := IV.rec (motive := fun _ => Option Value) none (fun _ a => some (.int k (Int.rec (motive := fun _ => Int) (fun m => Ga k m) (fun _ => Zj k a) a))) (asI v)
def Nv (v : Value) : Option Value := match v with
 | .pointer (some a) => some (.pointer (some a))
 | .func (.func f) a b => some (.func (.func f) a b)
 | .func (.yield l) a b => some (.func (.yield l) a b)
 | _ => none
def P6 (v : Value) : Option Value := AV.rec (motive := fun _ => Option Value) (Nv v) (Option.rec none fun a => some (.pointer (some a))) (asA v)
def Sa (off : Nat) (v : Value) : Option Value := PV.rec (motive := fun _ => Option Value) none (fun k o => some (.pointer (some ⟨k, Nat.add o off, none⟩))) (asP v)
def Nz (n size : Nat) (x i : Value) : Option Value := PV.rec (motive := fun _ => Option Value) none (fun k o => Option.rec (motive := fun _ => Option Value) none (fun j => Bool.rec (motive := fun _ => Option Value) none (some (.pointer (some ⟨k, Nat.add o (Nat.mul j size), none⟩))) (Nat.ble (Nat.succ j) n)) (asN i)) (asP x)
def Nx (size : Nat) (x i : Value) : Option Value := LV.rec (motive := fun _ => Option Value) none (fun a len _ => Option.rec (motive := fun _ => Option Value) none (Addr.rec (motive := fun _ => Option Value) fun k o _ => Option.rec (motive := fun _ => Option Value) none (fun j => Bool.rec (motive := fun _ => Option Value) none (some (.pointer (some ⟨k, Nat.add o (Nat.mul j size), none⟩))) (Nat.ble (Nat.succ j) len)) (asN i)) a) (asL x)
def T9 (v : Value) : Option Value := LV.rec (motive := fun _ => Option Value) none (fun _ n _ => some (.int .i64 (Int.ofNat n))) (asL v)
def NB (i : Nat) (v : Value) : Option Value := TV.rec (motive := fun _ => Option Value) none (fun l => Nt.rec (motive := fun _ => Option Value) (fun f => f l) (nth i)) (asT v)
def NC (neg : Bool) (x y : Value) : Option Value := IV.rec (motive := fun _ => Option Value) none (fun k a => IV.rec (motive := fun _ => Option Value) none (fun k' b => Bool.rec (motive := fun _ => Option Value) none (Bool.rec (motive := fun _ => Option Value) (HO k a b) (HN k a b) neg) (Nat.beq (kcd k) (kcd k'))) (asI y)) (asI x)
def GG (neg : Bool) (k : SK) (x y : Value) : Option Value := Option.rec none (fun b => some (.bool (Bool.rec b (Bool.rec true false b) neg))) (ZS k x y)
def Hj (neg : Bool) (x y : Value) : Option Value :=
 AV.rec (motive := fun _ => Option Value) none (fun a => AV.rec (motive := fun _ => Option Value) none (fun b => Option.rec (motive := fun _ => Option Value) (some (.bool (Option.rec (motive := fun _ => Bool) (Bool.rec (motive := fun _ => Bool) true false neg) (fun _ => Bool.rec (motive := fun _ => Bool) false true neg) b))) (fun _ => Option.rec (motive := fun _ => Option Value) (some (.bool (Bool.rec (motive := fun _ => Bool) false true neg))) (fun _ => GG neg .ptr x y) b) a) (asA y)) (asA x)
def SS (z : List Value) (parts : List (Nat × Nat × Operand)) (ρ : Operand → Value) : Option Value := match DT ρ z parts with | some cs => some (.agg ⟨cs⟩) | none => none
def Hg (size : Nat) (x : Value) (lo hi mx : Option Value) : Option Value :=
 match x with
 | .slice a len cap => match XD len cap lo hi mx with
  | some (l, h, m) => We a size l h m mx.isSome
  | none => none
 | _ => none
def Hh (n size : Nat) (x : Value) (lo hi mx : Option Value) : Option Value :=
 match x with
 | .pointer (some ⟨k, off, none⟩) => match XD n n lo hi mx with
  | some (l, h, m) => We (some ⟨k, off, none⟩) size l h m true
  | none => none
 | _ => none
def Ed (off : Nat) (agg : Option Nat) (x : Value) : Option Value := match x with | .agg cs => partOf agg cs.toList off | _ => none
def HA (n size : Nat) (agg : Option Nat) (x i : Value) : Option Value :=
 match x, Yk i with
 | .agg cs, some j => if Nat.blt j n then partOf agg cs.toList (j * size) else none
 | _, _ => none
def Hz (x i : Value) : Option Value :=
 match x, Yk i with
 | .string s, some j => match s.data.toList.drop j with
  | c :: _ => some (.int .u8 c.toNat)
  | [] => none
 | _, _ => none
def Hy (x : Value) : Option Value := match x with | .string s => some (.int .i64 s.data.toList.length) | _ => none
def Hi (n : Nat) (a : Value) (s : DS) : Option Value :=
 match a with
 | .pointer (some ⟨k, off, none⟩) => match De s k off n with
  | some l => some (.agg ⟨l⟩)
  | none => none
 | _ => none
def SR (x : Value) (s : DS) : Option Value :=
 match x with
 | .slice none _ _ => some (.string ⟨⟨[]⟩⟩)
 | .slice (some ⟨k, off, _⟩) len _ => match De s k off len with
  | some l => match XE l with
   | some b => some (.string ⟨⟨b⟩⟩)
   | none => none
  | none => none
 | _ => none
def GH (n size : Nat) (z : List Value) (parts : List (Nat × Nat × Operand)) (ρ : Operand → Value) (s : DS) : Option (Value × DS) :=
 if Nat.ble (n * size) 1048576 then
  match DT ρ (repeatZ z n) parts with
  | some cs => some (.slice (some ⟨s.next, 0, none⟩) n n, V7 s (.cells (.list cs) false))
  | none => none
 else none
def Vt (bytes : Nat) (z : List Value) (l c : Value) (s : DS) : Option (Value × DS) :=
 match Yk l, Yk c with
 | some l, some c =>
  if Nat.ble l c && Nat.ble c 1099511627776 && Nat.ble (c * bytes) 1099511627776 then
   some (.slice (some ⟨s.next, 0, none⟩) l c, V7 s (.cells (match z with | [v] => if Nat.blt 32 c then .tree c v .nil else .list (repeatZ z c) | _ => .list (repeatZ z c)) false))
  else none
 | _, _ => none
def Sd (bytes size : Nat) (x y : Value) (s : DS) : Option (Value × DS) :=
 match x, W8 y with
 | .slice base len cap, some n =>
  match MS s size y n with
  | none => none
  | some new =>
   if !(Nat.beq (V9 new) (n * size) && SH new) then none else
   if Nat.ble (len + n) cap then
    match base with
    | none => if Nat.beq n 0 then some (.slice none (len + n) cap, s) else none
    | some ⟨k, off, sp⟩ =>
     if Nat.beq n 0 then some (.slice (some ⟨k, off, sp⟩) (len + n) cap, s) else
     match Gv s k (off + len * size) new with
     | some s' => some (.slice (some ⟨k, off, sp⟩) (len + n) cap, s')
     | none => none
   else if Nat.ble (len + n) 1099511627776 && Nat.ble ((len + n) * bytes) 1099511627776 then
    match base with
    | none => if Nat.beq len 0 then some (.slice (some ⟨s.next, 0, some size⟩) n n, V7 s (.cells (.list new) false)) else none
    | some ⟨k, off, none⟩ =>
     match De s k off (len * size) with
     | some old => if SH old then some (.slice (some ⟨s.next, 0, some size⟩) (len + n) (len + n), V7 s (.cells (.list (PS old new)) false)) else none
     | none => none
    | some ⟨k, off, some sz⟩ =>
     if Nat.beq sz size then
      match hp s k with
      | some (.cells c false) => match P0 c off (len * size), s.kill k with
       | some old, some s' => if SH old then some (.slice (some ⟨s'.next, 0, some size⟩) (len + n) (len + n), V7 s' (.cells (c.like (PS old new)) false)) else none
       | _, _ => none
      | _ => none
     else none
   else none
 | _, _ => none
def DZ (size : Nat) (d x : Value) (s : DS) : Option (Value × DS) :=
 match d, W8 x with
 | .slice base len _, some m =>
  let n := if Nat.ble m len then m else len
  match MS s size x n with
  | none => none
  | some new =>
   if !(Nat.beq (V9 new) (n * size) && SH new) then none else
   match base with
   | none => some (.int .i64 n, s)
   | some ⟨k, off, _⟩ =>
    if Nat.beq n 0 then some (.int .i64 n, s) else
    match Gv s k off new with
    | some s' => some (.int .i64 n, s')
    | none => none
 | _, _ => none
def MY (size : Nat) (a v : Value) (s : DS) : Option DS :=
 PV.rec (motive := fun _ => Option DS) none (fun k off => Bool.rec (motive := fun _ => Option DS) none (Bool.rec (motive := fun _ => Option DS) none (Gv s k off v.cells.toList) (SH v.cells.toList)) (Nat.beq (V9 v.cells.toList) size)) (asP a)
theorem MX (size : Nat) (a v : Value) (s : DS) : MY size a v s = K1 size a v s := by
 simp only [MY, Vm, Vq, Gr, Qg, Ju, K1]
 cases a with
 | pointer p =>
  cases p with
  | none => rfl
  | some ad =>
   obtain ⟨k, off, sp⟩ := ad
   cases sp with
   | some z => rfl
   | none => dsimp only; cases Nat.beq v.cells.toList.length size <;> cases zL v.cells.toList <;> rfl
 | _ => rfl
def xop (o : DOp) : XOp :=
 match o with
 | .mv x => lt1 x fun f => .tot f
 | .bin op x y => Bf.rec (fun g => lt1 x fun f => lt1 y fun h => .val fun t _ => g (f t) (h t)) (Hl op)
 | .eq neg (.one .int) x y => lt1 x fun f => lt1 y fun h => .val fun t _ => NC neg (f t) (h t)
 | .eq neg (.one .ptr) x y => lt1 x fun f => lt1 y fun h => .val fun t _ => Hj neg (f t) (h t)
 | .eq neg (.one k) x y => lt1 x fun f => lt1 y fun h => .val fun t _ => GG neg k (f t) (h t)
 | .un .not x => lt1 x fun f => .val fun t _ => Nu (f t)
 | .pick c a b => lt1 c fun f => lt1 a fun g => lt1 b fun h => .val fun t _ => T8 (f t) (g t) (h t)
 | .cvInt k x => lt1 x fun f => .val fun t _ => DY k (f t)
 | .nilck x => lt1 x fun f => .val fun t _ => P6 (f t)
 | .alloc z => .neu fun _ => .cells (.list z) false
 | .box x => lt1 x fun f => .neu fun t => .cells (.list (f t).cells.toList) false
 | .build z parts => .val fun t _ => SS z parts (evX t)
 | .bslice n size z parts => .act fun _ t s => GH n size z parts (evX t) s
 | .ld none a => lt1 a fun f => .val fun t s => xld (f t) s
 | .ld (some n) a => lt1 a fun f => .val fun t s => Hi n (f t) s
 | .st 1 a x => lt1 a fun f => lt1 x fun g => .eff fun t s => Hs (f t) (g t) s
 | .st size a x => lt1 a fun f => lt1 x fun g => .eff fun t s => MY size (f t) (g t) s
 | .mkf f first captured => La.rec (fun g => La.rec (fun h => .tot fun t => .func (.func f) ⟨g t⟩ ⟨h t⟩) (la captured)) (la first)
 | .mkslice bytes z l c => lt1 l fun f => lt1 c fun g => .act fun _ t s => Vt bytes z (f t) (g t) s
 | .slL size x lo hi mx => lt1 x fun f => .val fun t _ => Hg size (f t) (lo.map (evX t)) (hi.map (evX t)) (mx.map (evX t))
 | .slA n size x lo hi mx => lt1 x fun f => .val fun t _ => Hh n size (f t) (lo.map (evX t)) (hi.map (evX t)) (mx.map (evX t))
 | .fadr off x => lt1 x fun f => .val fun t _ => Sa off (f t)
 | .fld off agg x => lt1 x fun f => .val fun t _ => Ed off agg (f t)
 | .ixA n size x i => lt1 x fun f => lt1 i fun g => .val fun t _ => Nz n size (f t) (g t)
 | .ixL size x i => lt1 x fun f => lt1 i fun g => .val fun t _ => Nx size (f t) (g t)
 | .idxA n size agg x i => lt1 x fun f => lt1 i fun g => .val fun t _ => HA n size agg (f t) (g t)
 | .idxS x i => lt1 x fun f => lt1 i fun g => .val fun t _ => Hz (f t) (g t)
 | .ext x i => lt1 x fun f => .val fun t _ => NB i (f t)
 | .blenL x => lt1 x fun f => .val fun t _ => T9 (f t)
 | .blenS x => lt1 x fun f => .val fun t _ => Hy (f t)
 | .cvToStr x => lt1 x fun f => .val fun t s => SR (f t) s
 | .bapp bytes size x y => lt1 x fun f => lt1 y fun g => .act fun _ t s => Sd bytes size (f t) (g t) s
 | .bcopy size x y => lt1 x fun f => lt1 y fun g => .act fun _ t s => DZ size (f t) (g t) s
 | .call f args => lt1 f fun g => La.rec (fun h => .act fun call t s => call (g t) (h t) s) (la args)
 | o => .act fun call t s => dop call (ev t) s o
end
end Go.Dx
set_option linter.unusedVariables false
set_option linter.unusedSimpArgs false
set_option linter.unusedSectionVars false
namespace Go.Dx
open Go
noncomputable section
variable (ρ : Operand → Value)
theorem Nr (x : Operand) : Nu (ρ x) = zp ρ (.un .not x) := by
 simp only [Nu, Gp, zp]
 generalize ρ x = A
 cases A with
 | bool b => cases b <;> rfl
 | _ => rfl
theorem Ph (c a b : Operand) : T8 (ρ c) (ρ a) (ρ b) = zp ρ (.pick c a b) := by
 simp only [T8, Gp, zp]
 generalize ρ c = A
 cases A with
 | bool b => cases b <;> rfl
 | _ => rfl
theorem Sc (k : IntKind) (x : Operand) : DY k (ρ x) = zp ρ (.cvInt k x) := by
 simp only [DY, Jw, zp]
 generalize ρ x = A
 cases A with
 | int j a =>
  cases a with
  | ofNat m => show some (Value.int k (Ga k m)) = _; rw [QM]
  | negSucc m => rfl
 | _ => rfl
theorem P5 (x : Operand) : P6 (ρ x) = zp ρ (.nilck x) := by
 simp only [P6, zp]
 generalize ρ x = A
 cases A with
 | pointer p => cases p <;> rfl
 | func g a b => cases g <;> rfl
 | _ => rfl
theorem Pj (off : Nat) (x : Operand) : Sa off (ρ x) = zp ρ (.fadr off x) := by
 simp only [Sa, Vm, zp]
 generalize ρ x = A
 cases A with
 | pointer p =>
  cases p with
  | none => rfl
  | some ad =>
   obtain ⟨k, o, sp⟩ := ad
   cases sp <;> rfl
 | _ => rfl
theorem LM {α : Type} (c : Bool) (a b : α) : _root_.cond c a b = if c = true then a else b := by cases c <;> rfl
theorem Ny (n size : Nat) (x i : Operand) : Nz n size (ρ x) (ρ i) = zp ρ (.ixA n size x i) := by
 simp only [Nz, Vm, MM, zp, Ju]
 generalize ρ x = A
 cases A with
 | pointer p =>
  cases p with
  | none => rfl
  | some ad =>
   obtain ⟨k, o, sp⟩ := ad
   cases sp with
   | some z => rfl
   | none => dsimp only; cases Yk (ρ i) <;> rfl
 | _ => rfl
theorem Nw (size : Nat) (x i : Operand) : Nx size (ρ x) (ρ i) = zp ρ (.ixL size x i) := by
 simp only [Nx, RQ, MM, zp, Ju]
 generalize ρ x = A
 cases A with
 | slice p len cap =>
  cases p with
  | none => rfl
  | some ad =>
   obtain ⟨k, o, sp⟩ := ad
   dsimp only; cases Yk (ρ i) <;> rfl
 | _ => rfl
theorem Pi (x : Operand) : T9 (ρ x) = zp ρ (.blenL x) := by
 simp only [T9, RQ, zp]
 generalize ρ x = A
 cases A <;> rfl
theorem NA (x : Operand) (i : Nat) : NB i (ρ x) = zp ρ (.ext x i) := by
 simp only [NB, LP, zp, Fc]
 generalize ρ x = A
 cases A <;> rfl
theorem LI (k : SK) (x y : Value) : XO 5000 (.one k) x y = ZS k x y := by
 show XO (4999 + 1) (.one k) x y = _
 simp only [XO]
theorem GF (neg : Bool) (k : SK) (x y : Operand) : GG neg k (ρ x) (ρ y) = zp ρ (.eq neg (.one k) x y) := by
 simp only [GG, zp, LI]
 cases ZS k (ρ x) (ρ y) with
 | none => rfl
 | some b => cases neg <;> cases b <;> rfl
theorem Pl (neg : Bool) (x y : Value) : NC neg x y = GG neg .int x y := by
 simp only [NC, GG, Jw]
 cases x with
 | int k a =>
  cases y with
  | int k' b =>
   simp only [ZS, Dn, RA, Rz]
   by_cases e : k = k'
   · subst e
     simp only [decide_true, if_true]
     cases neg with
     | false => rfl
     | true => show zX .neq k a b = some (.bool (Bool.rec true false (decide (a = b)))); simp only [zX]; cases decide (a = b) <;> rfl
   · simp only [decide_eq_false e, if_neg e]
  | _ => rfl
 | _ => rfl
theorem Pk (neg : Bool) (x y : Value) : Hj neg x y = GG neg .ptr x y := by
 cases x with
 | pointer a =>
  cases y with
  | pointer b =>
   cases a with
   | none => cases b <;> cases neg <;> rfl
   | some a => cases b with
    | none => cases neg <;> rfl
    | some b => rfl
  | _ => first | rfl | (cases a with | none => rfl | some a => rfl)
 | _ => rfl
theorem DX (s : DS) (size : Nat) (a x : Operand) : (Option.rec (motive := fun _ => Option (Value × DS)) none (fun s' => some (Zt, s')) (K1 size (ρ a) (ρ x) s)) = z6 ρ s (.st size a x) := by
 simp only [K1, z6]
 generalize ρ a = A
 cases A with
 | pointer p =>
  cases p with
  | none => rfl
  | some ad =>
   obtain ⟨k, o, sp⟩ := ad
   cases sp with
   | some z => rfl
   | none =>
    dsimp only
    split
    · cases s.write k o (ρ x).cells.toList <;> rfl
    · rfl
 | _ => rfl
theorem TP (o : DOp) (call : Zg) (t : PT Value) (s : DS) : (xop o).go call t s = dop call (ev t) s o := by
 have val : ∀ (o : DOp) (z : Option Value), o.cls = .pure → z = zp (ev t) o → (Option.rec (motive := fun _ => Option (Value × DS)) none (fun v => some (v, s)) z) = dop call (ev t) s o := by
  intro o z hc hz
  subst hz
  unfold dop
  rw [hc]
  cases zp (ev t) o <;> rfl
 have rdv : ∀ (o : DOp) (z : Option Value), o.cls = .read → z = zZ (ev t) s o → (Option.rec (motive := fun _ => Option (Value × DS)) none (fun v => some (v, s)) z) = dop call (ev t) s o := by
  intro o z hc hz
  subst hz
  unfold dop
  rw [hc]
  cases zZ (ev t) s o <;> rfl
 cases o with
 | mv x => simp only [xop, Yt]; rfl
 | bin op x y => simp only [xop, Yt, NY]; exact val (.bin op x y) _ rfl rfl
 | eq neg e x y =>
  cases e with
  | one k =>
   cases k <;> simp only [xop, Yt]
   case int => exact val (.eq neg (.one .int) x y) _ rfl ((Pl neg _ _).trans (GF _ neg .int x y))
   case ptr => exact val (.eq neg (.one .ptr) x y) _ rfl ((Pk neg _ _).trans (GF _ neg .ptr x y))
   all_goals exact val (.eq neg (.one _) x y) _ rfl (GF _ neg _ x y)
  | struct fs => rfl
  | arr n z e => rfl
 | un op x =>
  cases op <;> first
   | rfl
   | (simp only [xop, Yt]; exact val (.un .not x) _ rfl (Nr _ x))
 | pick c a b => simp only [xop, Yt]; exact val (.pick c a b) _ rfl (Ph _ c a b)
 | cvInt k x => simp only [xop, Yt]; exact val (.cvInt k x) _ rfl (Sc _ k x)
 | nilck x => simp only [xop, Yt]; exact val (.nilck x) _ rfl (P5 _ x)
 | alloc z => show some (Value.pointer (some ⟨s.next, 0, none⟩), V7 s (.cells (.list z) false)) = _; rw [Ji]; rfl
 | box x => simp only [xop, Yt]; show some (Value.pointer (some ⟨s.next, 0, none⟩), V7 s (.cells (.list (ev t x).cells.toList) false)) = _; rw [Ji]; rfl
 | build z parts => exact val (.build z parts) _ rfl (by simp only [SS, Dh, Cg, zp]; rfl)
 | ld agg a =>
  cases agg with
  | none => simp only [xop, Yt]; exact rdv (.ld none a) _ rfl (Hu _ s a)
  | some n => simp only [xop, Yt]; exact rdv (.ld (some n) a) _ rfl (by simp only [Hi, JD, zZ]; rfl)
 | st size a x =>
  by_cases h : size = 1
  · subst h
    simp only [xop, Yt]
    refine Eq.trans ?_ (DX (ev t) s 1 a x)
    rw [← MR]
    rfl
  · have : xop (.st size a x) = lt1 a fun f => lt1 x fun g => .eff fun t s => MY size (f t) (g t) s := by
     unfold xop
     split <;> first | rfl | contradiction | (rename_i heq; cases heq; first | rfl | exact absurd rfl h) | skip
     all_goals simp_all
    rw [this]
    simp only [Yt, MX]
    exact DX (ev t) s size a x
 | mkf f first captured => simp only [xop, Mb]; rfl
 | slL size x lo hi mx => simp only [xop, Yt]; exact val (.slL size x lo hi mx) _ rfl (by simp only [Hg, zp, Option.isSome_map, Cg]; generalize ev t x = A; cases A <;> rfl)
 | slA n size x lo hi mx => simp only [xop, Yt]; exact val (.slA n size x lo hi mx) _ rfl (by simp only [Hh, zp, Cg]; rfl)
 | fadr off x => simp only [xop, Yt]; exact val (.fadr off x) _ rfl (Pj _ off x)
 | fld off agg x => simp only [xop, Yt]; exact val (.fld off agg x) _ rfl rfl
 | ixA n size x i => simp only [xop, Yt]; exact val (.ixA n size x i) _ rfl (Ny _ n size x i)
 | ixL size x i => simp only [xop, Yt]; exact val (.ixL size x i) _ rfl (Nw _ size x i)
 | idxA n size agg x i => simp only [xop, Yt]; exact val (.idxA n size agg x i) _ rfl rfl
 | idxS x i => simp only [xop, Yt]; exact val (.idxS x i) _ rfl rfl
 | ext x i => simp only [xop, Yt]; exact val (.ext x i) _ rfl (NA _ x i)
 | blenL x => simp only [xop, Yt]; exact val (.blenL x) _ rfl (Pi _ x)
 | blenS x => simp only [xop, Yt]; exact val (.blenS x) _ rfl rfl
 | cvToStr x => simp only [xop, Yt]; exact rdv (.cvToStr x) _ rfl (by simp only [SR, zZ, JD]; rfl)
 | bslice n size z parts => show GH n size z parts (evX t) s = Z9 (ev t) s (.bslice n size z parts); simp only [GH, Z9, Dh, Cg, Ji]; rfl
 | mkslice bytes z l c => simp only [xop, Yt]; show Vt bytes z (ev t l) (ev t c) s = Z9 (ev t) s (.mkslice bytes z l c); simp only [Vt, Z9, Ji]; rfl
 | bapp bytes size x y => simp only [xop, Yt]; show Sd bytes size (ev t x) (ev t y) s = z6 (ev t) s (.bapp bytes size x y); simp only [Sd, z6, Ji, SL, JD, Vq, VU, Cr, Gr, Qg, RR]; rfl
 | bcopy size x y => simp only [xop, Yt]; show DZ size (ev t x) (ev t y) s = z6 (ev t) s (.bcopy size x y); simp only [DZ, z6, Ji, SL, JD, Vq, Gr, Qg]; rfl
 | call f args => simp only [xop, Yt, Mb]; rfl
 | _ => rfl
end
end Go.Dx
