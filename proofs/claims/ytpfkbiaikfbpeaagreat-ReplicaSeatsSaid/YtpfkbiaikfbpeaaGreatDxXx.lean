/- A part. -/
import Derived.Test.YtpfkbiaikfbpeaaGreatDxIns
set_option linter.unusedVariables false
set_option linter.unusedSimpArgs false
set_option linter.unusedSectionVars false
namespace Go.Dx
open Go
noncomputable section
inductive S8 (α : Type) where
 | mk (f : V8 α → α)
inductive U8 (α : Type) where
 | mk (f : (α → α) → V8 α → V8 α)
def Kw {α : Type} (i : Nat) : S8 α :=
 match i with
 | 0 => .mk (V8.rec fun a _ _ _ _ _ _ _ => a)
 | 1 => .mk (V8.rec fun _ a _ _ _ _ _ _ => a)
 | 2 => .mk (V8.rec fun _ _ a _ _ _ _ _ => a)
 | 3 => .mk (V8.rec fun _ _ _ a _ _ _ _ => a)
 | 4 => .mk (V8.rec fun _ _ _ _ a _ _ _ => a)
 | 5 => .mk (V8.rec fun _ _ _ _ _ a _ _ => a)
 | 6 => .mk (V8.rec fun _ _ _ _ _ _ a _ => a)
 | _ => .mk (V8.rec fun _ _ _ _ _ _ _ a => a)
def Kv {α : Type} (i : Nat) : U8 α :=
 match i with
 | 0 => .mk (fun g => V8.rec fun a b c d e f h k => .mk (g a) b c d e f h k)
 | 1 => .mk (fun g => V8.rec fun a b c d e f h k => .mk a (g b) c d e f h k)
 | 2 => .mk (fun g => V8.rec fun a b c d e f h k => .mk a b (g c) d e f h k)
 | 3 => .mk (fun g => V8.rec fun a b c d e f h k => .mk a b c (g d) e f h k)
 | 4 => .mk (fun g => V8.rec fun a b c d e f h k => .mk a b c d (g e) f h k)
 | 5 => .mk (fun g => V8.rec fun a b c d e f h k => .mk a b c d e (g f) h k)
 | 6 => .mk (fun g => V8.rec fun a b c d e f h k => .mk a b c d e f (g h) k)
 | _ => .mk (fun g => V8.rec fun a b c d e f h k => .mk a b c d e f h (g k))
theorem FF {α : Type} (i : Nat) : (Kw i : S8 α) = .mk (V8.get i) := by
 unfold Kw
 split <;> (refine congrArg S8.mk (funext fun v => ?_); cases v; unfold V8.get; first | rfl | (split <;> first | rfl | contradiction | (rename_i hq _ _ _ _ _ _ _; cases hq; rfl)))
theorem FE {α : Type} (i : Nat) : (Kv i : U8 α) = .mk (V8.upd i) := by
 unfold Kv
 split <;> (refine congrArg U8.mk (funext fun g => funext fun v => ?_); cases v; unfold V8.upd; first | rfl | (split <;> first | rfl | contradiction | (rename_i hq _ _ _ _ _ _ _; cases hq; rfl)))
inductive Rdx (α : Type) where
 | mk (f : PT α → Option α)
inductive Wr (α : Type) where
 | mk (f : Option α → PT α → PT α)
def rdx {α : Type} (k : Nat) : Rdx α :=
 _root_.cond (Nat.blt k 64)
  (S8.rec (fun f => S8.rec (fun g => Rdx.mk (PT.rec fun lo _ _ _ => g (f lo))) (Kw (Nat.mod k 8))) (Kw (Nat.div k 8)))
  (_root_.cond (Nat.blt k 4160)
   (S8.rec (fun f => S8.rec (fun g => S8.rec (fun h => S8.rec (fun i => Rdx.mk (PT.rec fun _ mid _ _ => i (h (g (f mid))))) (Kw (Nat.mod (Nat.sub k 64) 8)))
    (Kw (Nat.mod (Nat.div (Nat.sub k 64) 8) 8))) (Kw (Nat.mod (Nat.div (Nat.sub k 64) 64) 8))) (Kw (Nat.div (Nat.sub k 64) 512)))
   (Rdx.mk fun t => t.get k))
def wrs {α : Type} (k : Nat) : Wr α :=
 _root_.cond (Nat.blt k 64)
  (U8.rec (fun f => U8.rec (fun g => Wr.mk (fun x => PT.rec fun lo mid far big => .mk (f (g fun _ => x) lo) mid far big)) (Kv (Nat.mod k 8))) (Kv (Nat.div k 8)))
  (_root_.cond (Nat.blt k 4160)
   (U8.rec (fun f => U8.rec (fun g => U8.rec (fun h => U8.rec (fun i => Wr.mk (fun x => PT.rec fun lo mid far big => .mk lo (f (g (h (i fun _ => x))) mid) far big)) (Kv (Nat.mod (Nat.sub k 64) 8)))
    (Kv (Nat.mod (Nat.div (Nat.sub k 64) 8) 8))) (Kv (Nat.mod (Nat.div (Nat.sub k 64) 64) 8))) (Kv (Nat.div (Nat.sub k 64) 512)))
   (Wr.mk fun x t => t.put k x))
theorem Yd {a b : Nat} (h : a < b) : Nat.blt a b = true := (ZV a b).2 h
theorem Xq {a b : Nat} (h : ¬ a < b) : Nat.blt a b = false := by
 cases hb : Nat.blt a b with
 | false => rfl
 | true => exact absurd ((ZV a b).1 hb) h
theorem Vy {α : Type} (k : Nat) : (rdx k : Rdx α) = .mk fun t => t.get k := by
 unfold rdx
 by_cases h1 : k < 64
 · rw [Yd h1]
   simp only [cond_true, FF]
   refine congrArg Rdx.mk (funext fun t => ?_)
   cases t
   simp only [PT.get, h1, if_true]
   rfl
 · rw [Xq h1]
   by_cases h2 : k < 4160
   · rw [Yd h2]
     simp only [cond_true, cond_false, FF]
     refine congrArg Rdx.mk (funext fun t => ?_)
     cases t
     simp only [PT.get, h1, h2, if_true, if_false]
     rfl
   · rw [Xq h2]
     rfl
theorem Ke {α : Type} (k : Nat) : (wrs k : Wr α) = .mk fun x t => t.put k x := by
 unfold wrs
 by_cases h1 : k < 64
 · rw [Yd h1]
   simp only [cond_true, FE]
   refine congrArg Wr.mk (funext fun x => funext fun t => ?_)
   cases t
   simp only [PT.put, h1, if_true]
   rfl
 · rw [Xq h1]
   by_cases h2 : k < 4160
   · rw [Yd h2]
     simp only [cond_true, cond_false, FE]
     refine congrArg Wr.mk (funext fun x => funext fun t => ?_)
     cases t
     simp only [PT.put, h1, h2, if_true, if_false]
     rfl
   · rw [Xq h2]
     rfl
inductive IV where
 | no
 | mk (k : IntKind) (n : Int)
inductive BV where
 | no
 | mk (b : Bool)
inductive PV where
 | no
 | mk (k off : Nat)
inductive AV where
 | no
 | mk (a : Option Addr)
inductive LV where
 | no
 | mk (a : Option Addr) (n c : Nat)
inductive FV where
 | no
 | mk (fn : Fn) (first captured : Array Value)
inductive TV where
 | no
 | mk (vs : List Value)
def asB : Value → BV := Value.rec (motive_1 := fun _ => BV) (motive_2 := fun _ => PUnit) (motive_3 := fun _ => PUnit) BV.mk (fun _ _ => .no) (fun _ _ => .no) (fun _ _ _ => .no) (fun _ => .no) (fun _ => .no) (fun _ _ _ => .no) (fun _ => .no) (fun _ => .no) (fun _ _ _ _ _ => .no) .no (fun _ _ _ => .no) .no (fun _ _ => .no) (fun _ _ => .no) (fun _ _ => ⟨⟩) ⟨⟩ (fun _ _ _ _ => ⟨⟩)
def asI : Value → IV := Value.rec (motive_1 := fun _ => IV) (motive_2 := fun _ => PUnit) (motive_3 := fun _ => PUnit) (fun _ => .no) IV.mk (fun _ _ => .no) (fun _ _ _ => .no) (fun _ => .no) (fun _ => .no) (fun _ _ _ => .no) (fun _ => .no) (fun _ => .no) (fun _ _ _ _ _ => .no) .no (fun _ _ _ => .no) .no (fun _ _ => .no) (fun _ _ => .no) (fun _ _ => ⟨⟩) ⟨⟩ (fun _ _ _ _ => ⟨⟩)
def asP : Value → PV := Value.rec (motive_1 := fun _ => PV) (motive_2 := fun _ => PUnit) (motive_3 := fun _ => PUnit) (fun _ => .no) (fun _ _ => .no) (fun _ _ => .no) (fun _ _ _ => .no) (fun _ => .no) (Option.rec .no (Addr.rec fun k off sp => Option.rec (PV.mk k off) (fun _ => .no) sp)) (fun _ _ _ => .no) (fun _ => .no) (fun _ => .no) (fun _ _ _ _ _ => .no) .no (fun _ _ _ => .no) .no (fun _ _ => .no) (fun _ _ => .no) (fun _ _ => ⟨⟩) ⟨⟩ (fun _ _ _ _ => ⟨⟩)
def asA : Value → AV := Value.rec (motive_1 := fun _ => AV) (motive_2 := fun _ => PUnit) (motive_3 := fun _ => PUnit) (fun _ => .no) (fun _ _ => .no) (fun _ _ => .no) (fun _ _ _ => .no) (fun _ => .no) AV.mk (fun _ _ _ => .no) (fun _ => .no) (fun _ => .no) (fun _ _ _ _ _ => .no) .no (fun _ _ _ => .no) .no (fun _ _ => .no) (fun _ _ => .no) (fun _ _ => ⟨⟩) ⟨⟩ (fun _ _ _ _ => ⟨⟩)
def asL : Value → LV := Value.rec (motive_1 := fun _ => LV) (motive_2 := fun _ => PUnit) (motive_3 := fun _ => PUnit) (fun _ => .no) (fun _ _ => .no) (fun _ _ => .no) (fun _ _ _ => .no) (fun _ => .no) (fun _ => .no) LV.mk (fun _ => .no) (fun _ => .no) (fun _ _ _ _ _ => .no) .no (fun _ _ _ => .no) .no (fun _ _ => .no) (fun _ _ => .no) (fun _ _ => ⟨⟩) ⟨⟩ (fun _ _ _ _ => ⟨⟩)
def asF : Value → FV := Value.rec (motive_1 := fun _ => FV) (motive_2 := fun _ => PUnit) (motive_3 := fun _ => PUnit) (fun _ => .no) (fun _ _ => .no) (fun _ _ => .no) (fun _ _ _ => .no) (fun _ => .no) (fun _ => .no) (fun _ _ _ => .no) (fun _ => .no) (fun _ => .no) (fun g a b _ _ => FV.mk g a b) .no (fun _ _ _ => .no) .no (fun _ _ => .no) (fun _ _ => .no) (fun _ _ => ⟨⟩) ⟨⟩ (fun _ _ _ _ => ⟨⟩)
def asT : Value → TV := Value.rec (motive_1 := fun _ => TV) (motive_2 := fun _ => PUnit) (motive_3 := fun _ => PUnit) (fun _ => .no) (fun _ _ => .no) (fun _ _ => .no) (fun _ _ _ => .no) (fun _ => .no) (fun _ => .no) (fun _ _ _ => .no) (fun _ => .no) (fun _ => .no) (fun _ _ _ _ _ => .no) .no (fun _ _ _ => .no) .no (fun _ _ => .no) (fun vs _ => TV.mk vs.toList) (fun _ _ => ⟨⟩) ⟨⟩ (fun _ _ _ _ => ⟨⟩)
theorem J9 {β : Type} (z : β) (f : Nat → Nat → β) (v : Value) : PV.rec (motive := fun _ => β) z f (asP v) = (match v with | .pointer (some ⟨k, off, none⟩) => f k off | _ => z) := by
 cases v with
 | pointer a =>
  cases a with
  | none => rfl
  | some a =>
   obtain ⟨k, off, sp⟩ := a
   cases sp <;> rfl
 | _ => rfl
theorem QB {β : Type} (z : β) (f : IntKind → Int → β) (v : Value) : IV.rec (motive := fun _ => β) z f (asI v) = (match v with | .int k n => f k n | _ => z) := by cases v <;> rfl
theorem K7 {β : Type} (z : β) (f : Bool → β) (v : Value) : BV.rec (motive := fun _ => β) z f (asB v) = (match v with | .bool b => f b | _ => z) := by cases v <;> rfl
theorem CM {β : Type} (z : β) (f : Option Addr → Nat → Nat → β) (v : Value) : LV.rec (motive := fun _ => β) z f (asL v) = (match v with | .slice a b c => f a b c | _ => z) := by cases v <;> rfl
theorem PM {β : Type} (z : β) (f : Fn → Array Value → Array Value → β) (v : Value) : FV.rec (motive := fun _ => β) z f (asF v) = (match v with | .func g a b => f g a b | _ => z) := by cases v <;> rfl
theorem PL {β : Type} (z : β) (f : List Value → β) (v : Value) : TV.rec (motive := fun _ => β) z f (asT v) = (match v with | .tuple vs => f vs.toList | _ => z) := by cases v <;> rfl
theorem QA {α : Type} (c : Bool) (a b : α) : Bool.rec (motive := fun _ => α) b a c = if c = true then a else b := by cases c <;> rfl
def kcd : IntKind → Nat := IntKind.rec (motive := fun _ => Nat) 0 1 2 3 4 5 6 7
def Mm (a b : IntKind) : Bool := Nat.beq (kcd a) (kcd b)
theorem Sf (a b : IntKind) : Mm a b = decide (a = b) := by cases a <;> cases b <;> rfl
def FK : IntKind → Nat := IntKind.rec (motive := fun _ => Nat) 256 65536 4294967296 18446744073709551616 256 65536 4294967296 18446744073709551616
def SQ : IntKind → Nat := IntKind.rec (motive := fun _ => Nat) 128 32768 2147483648 9223372036854775808 256 65536 4294967296 18446744073709551616
theorem Pi (k : IntKind) : FK k = Zt k := by cases k <;> rfl
def KR (k : IntKind) (m : Nat) : Int := Bool.rec (motive := fun _ => Int) (zR k (Int.ofNat m)) (Int.ofNat m) (Nat.ble (Nat.succ m) (SQ k))
theorem WY (k : IntKind) (m : Nat) : KR k m = zR k (.ofNat m) := by
 show Bool.rec (motive := fun _ => Int) (zR k (Int.ofNat m)) (Int.ofNat m) (Nat.blt m (SQ k)) = _
 by_cases h : m < SQ k
 · rw [Yd h]
   show Int.ofNat m = _
   have hl : low k (.ofNat m) = m := by
    cases k <;> simp only [SQ] at h <;> exact Nat.mod_eq_of_lt (by simp only [Zt]; omega)
   have hb : Wi k = true → Nat.ble (JC k) m = false := by
    intro hs
    cases k <;> simp only [SQ] at h <;> first | (cases hs; done) | exact (by rw [Bool.eq_false_iff]; intro hb; have := Nat.le_of_ble_eq_true hb; simp only [JC] at this; omega)
   unfold zR
   simp only [hl]
   cases hs : Wi k with
   | false => rfl
   | true => rw [hb hs]; rfl
 · rw [Xq h]
inductive Bf where
 | mk (f : Value → Value → Option Value)
def two (op : BinOp) (F : IntKind → Int → Int → Option Value) : Bf :=
 .mk fun x y => IV.rec (motive := fun _ => Option Value) (zY op x y) (fun k a => IV.rec (motive := fun _ => Option Value) none (fun k' b => Bool.rec (motive := fun _ => Option Value) none (F k a b) (Nat.beq (kcd k) (kcd k'))) (asI y)) (asI x)
def ML (k : IntKind) (a b : Int) : Option Value := Int.rec (motive := fun _ => Option Value) (fun m => Int.rec (motive := fun _ => Option Value) (fun n => some (.int k (KR k (Nat.add m n)))) (fun _ => zP .add k a b) b) (fun _ => zP .add k a b) a
def NO (k : IntKind) (a b : Int) : Option Value := Int.rec (motive := fun _ => Option Value) (fun m => Int.rec (motive := fun _ => Option Value) (fun n => Bool.rec (motive := fun _ => Option Value) (zP .sub k a b) (some (.int k (KR k (Nat.sub m n)))) (Nat.ble n m)) (fun _ => zP .sub k a b) b) (fun _ => zP .sub k a b) a
def ME (k : IntKind) (a b : Int) : Option Value := Int.rec (motive := fun _ => Option Value) (fun m => Int.rec (motive := fun _ => Option Value) (fun n => some (.int k (KR k (Nat.mul m n)))) (fun _ => zP .mul k a b) b) (fun _ => zP .mul k a b) a
def MK (k : IntKind) (a b : Int) : Option Value := Int.rec (motive := fun _ => Option Value) (fun m => Int.rec (motive := fun _ => Option Value) (fun n => some (.int k (KR k (Nat.land (Nat.mod m (FK k)) (Nat.mod n (FK k)))))) (fun _ => zP .and k a b) b) (fun _ => zP .and k a b) a
def fOr (k : IntKind) (a b : Int) : Option Value := Int.rec (motive := fun _ => Option Value) (fun m => Int.rec (motive := fun _ => Option Value) (fun n => some (.int k (KR k (Nat.lor (Nat.mod m (FK k)) (Nat.mod n (FK k)))))) (fun _ => zP .or k a b) b) (fun _ => zP .or k a b) a
def MB (k : IntKind) (a b : Int) : Option Value := Int.rec (motive := fun _ => Option Value) (fun m => Int.rec (motive := fun _ => Option Value) (fun n => some (.int k (KR k (Nat.xor (Nat.mod m (FK k)) (Nat.mod n (FK k)))))) (fun _ => zP .xor k a b) b) (fun _ => zP .xor k a b) a
def NR (k : IntKind) (a b : Int) : Option Value := Int.rec (motive := fun _ => Option Value) (fun m => Int.rec (motive := fun _ => Option Value) (fun n => some (.bool (Nat.beq m n))) (fun _ => zP .eql k a b) b) (fun _ => zP .eql k a b) a
def NQ (k : IntKind) (a b : Int) : Option Value := Int.rec (motive := fun _ => Option Value) (fun m => Int.rec (motive := fun _ => Option Value) (fun n => some (.bool (Bool.rec (motive := fun _ => Bool) true false (Nat.beq m n)))) (fun _ => zP .neq k a b) b) (fun _ => zP .neq k a b) a
def MF (k : IntKind) (a b : Int) : Option Value := Int.rec (motive := fun _ => Option Value) (fun m => Int.rec (motive := fun _ => Option Value) (fun n => some (.bool (Nat.ble (Nat.succ m) n))) (fun _ => zP .lss k a b) b) (fun _ => zP .lss k a b) a
def MG (k : IntKind) (a b : Int) : Option Value := Int.rec (motive := fun _ => Option Value) (fun m => Int.rec (motive := fun _ => Option Value) (fun n => some (.bool (Nat.ble m n))) (fun _ => zP .leq k a b) b) (fun _ => zP .leq k a b) a
def MH (k : IntKind) (a b : Int) : Option Value := Int.rec (motive := fun _ => Option Value) (fun m => Int.rec (motive := fun _ => Option Value) (fun n => some (.bool (Nat.ble (Nat.succ n) m))) (fun _ => zP .gtr k a b) b) (fun _ => zP .gtr k a b) a
def MJ (k : IntKind) (a b : Int) : Option Value := Int.rec (motive := fun _ => Option Value) (fun m => Int.rec (motive := fun _ => Option Value) (fun n => some (.bool (Nat.ble n m))) (fun _ => zP .geq k a b) b) (fun _ => zP .geq k a b) a
def RD : IntKind → Nat := IntKind.rec (motive := fun _ => Nat) 8 16 32 64 8 16 32 64
theorem RC (k : IntKind) : RD k = bitsOf k := by cases k <;> rfl
def Pj (k : IntKind) (n : Nat) : Nat := Bool.rec (motive := fun _ => Nat) n (RD k) (Nat.ble (RD k) n)
def MD (k : IntKind) (a b : Int) : Option Value := Int.rec (motive := fun _ => Option Value) (fun m => Int.rec (motive := fun _ => Option Value) (fun n => some (.int k (KR k (Nat.mul m (Nat.pow 2 (Pj k n)))))) (fun _ => ZZ .shl k a b) b) (fun _ => ZZ .shl k a b) a
def MC (k : IntKind) (a b : Int) : Option Value := Int.rec (motive := fun _ => Option Value) (fun m => Int.rec (motive := fun _ => Option Value) (fun n => some (.int k (Int.ofNat (Nat.div m (Nat.pow 2 (Pj k n)))))) (fun _ => ZZ .shr k a b) b) (fun _ => ZZ .shr k a b) a
def shf (op : BinOp) (F : IntKind → Int → Int → Option Value) : Bf :=
 .mk fun x y => IV.rec (motive := fun _ => Option Value) (zY op x y) (fun k a => IV.rec (motive := fun _ => Option Value) (zY op x y) (fun _ b => F k a b) (asI y)) (asI x)
def P8 (op : BinOp) : Bf :=
 match op with
 | .add => two .add ML
 | .sub => two .sub NO
 | .mul => two .mul ME
 | .and => two .and MK
 | .or => two .or fOr
 | .xor => two .xor MB
 | .eql => two .eql NR
 | .neq => two .neq NQ
 | .lss => two .lss MF
 | .leq => two .leq MG
 | .gtr => two .gtr MH
 | .geq => two .geq MJ
 | .shl => shf .shl MD
 | .shr => shf .shr MC
 | op => .mk (zY op)
theorem QR (k : IntKind) (a b : Int) (op : BinOp) (g : Nat → Nat → Option Value) (h : ∀ m n, g m n = zP op k (.ofNat m) (.ofNat n)) :
 Int.rec (motive := fun _ => Option Value) (fun m => Int.rec (motive := fun _ => Option Value) (fun n => g m n) (fun _ => zP op k a b) b) (fun _ => zP op k a b) a = zP op k a b := by
 cases a with
 | ofNat m => cases b with
  | ofNat n => exact h m n
  | negSucc n => rfl
 | negSucc m => rfl
theorem Na (k : IntKind) (a b : Int) (op : BinOp) (g : Nat → Nat → Option Value) (h : ∀ m n, g m n = ZZ op k (.ofNat m) (.ofNat n)) :
 Int.rec (motive := fun _ => Option Value) (fun m => Int.rec (motive := fun _ => Option Value) (fun n => g m n) (fun _ => ZZ op k a b) b) (fun _ => ZZ op k a b) a = ZZ op k a b := by
 cases a with
 | ofNat m => cases b with
  | ofNat n => exact h m n
  | negSucc n => rfl
 | negSucc m => rfl
theorem Gw (a b : IntKind) : Nat.beq (kcd a) (kcd b) = decide (a = b) := Sf a b
theorem Wk {op : BinOp} {F : IntKind → Int → Int → Option Value} (h1 : op ≠ .shl) (h2 : op ≠ .shr) (h : ∀ k a b, F k a b = zP op k a b) : two op F = .mk (zY op) := by
 refine congrArg Bf.mk (funext fun x => funext fun y => ?_)
 rw [QB]
 cases x with
 | int k a =>
  simp only [QB]
  cases y with
  | int k' b =>
   simp only [h, Gw, QA]
   have : zY op (.int k a) (.int k' b) = if k = k' then zP op k a b else none := by
    cases op <;> first | rfl | exact absurd rfl h1 | exact absurd rfl h2
   rw [this]
   by_cases e : k = k' <;> simp [e]
  | _ => rfl
 | _ => rfl
theorem Sd {op : BinOp} {F : IntKind → Int → Int → Option Value} (h : ∀ k k' a b, F k a b = zY op (.int k a) (.int k' b)) : shf op F = .mk (zY op) := by
 refine congrArg Bf.mk (funext fun x => funext fun y => ?_)
 rw [QB]
 cases x with
 | int k a =>
  simp only [QB]
  cases y with
  | int k' b => exact h k k' a b
  | _ => rfl
 | _ => rfl
theorem Cu (k : IntKind) (n : Nat) : Pj k n = if Nat.ble (bitsOf k) n then bitsOf k else n := by
 unfold Pj
 rw [RC, QA]
theorem Gy (n : Nat) : ¬ (Int.ofNat n < 0) := by simp only [Int.ofNat_eq_natCast]; omega
theorem PC (k : IntKind) (a b : Int) : ML k a b = zP .add k a b := QR k a b .add _ fun m n => by rw [WY]; rfl
theorem Pt (k : IntKind) (a b : Int) : NO k a b = zP .sub k a b := by
 unfold NO
 cases a with
 | ofNat m => cases b with
  | ofNat n =>
   show Bool.rec (motive := fun _ => Option Value) (zP .sub k (.ofNat m) (.ofNat n)) (some (.int k (KR k (Nat.sub m n)))) (Nat.ble n m) = _
   cases h : Nat.ble n m with
   | false => rfl
   | true =>
    have hle := Nat.le_of_ble_eq_true h
    have e : (Int.ofNat m - Int.ofNat n) = Int.ofNat (m - n) := by simp only [Int.ofNat_eq_natCast]; omega
    show some (Value.int k (KR k (m - n))) = some (.int k (zR k (Int.ofNat m - Int.ofNat n)))
    rw [WY, e]
  | negSucc n => rfl
 | negSucc m => rfl
theorem Pw (k : IntKind) (a b : Int) : ME k a b = zP .mul k a b := QR k a b .mul _ fun m n => by rw [WY]; rfl
theorem Jd (k : IntKind) (m : Nat) : low k (.ofNat m) = Nat.mod m (FK k) := by rw [Pi]; rfl
theorem PB (k : IntKind) (a b : Int) : MK k a b = zP .and k a b := QR k a b .and _ fun m n => by rw [WY, ← Jd, ← Jd]; rfl
theorem NP (k : IntKind) (a b : Int) : fOr k a b = zP .or k a b := QR k a b .or _ fun m n => by rw [WY, ← Jd, ← Jd]; rfl
theorem Ps (k : IntKind) (a b : Int) : MB k a b = zP .xor k a b := QR k a b .xor _ fun m n => by rw [WY, ← Jd, ← Jd]; rfl
theorem CL (m n : Nat) : Nat.beq m n = decide (Int.ofNat m = Int.ofNat n) := by
 rw [Bool.eq_iff_iff, decide_eq_true_iff]
 constructor
 · intro h; rw [Nat.eq_of_beq_eq_true h]
 · intro h; cases h; exact Nat.beq_refl _
theorem CC (k : IntKind) (a b : Int) : NR k a b = zP .eql k a b := QR k a b .eql _ fun m n => by rw [CL]; rfl
theorem CB (k : IntKind) (a b : Int) : NQ k a b = zP .neq k a b := QR k a b .neq _ fun m n => by
 rw [CL]
 show some (Value.bool (Bool.rec (motive := fun _ => Bool) true false (decide (Int.ofNat m = Int.ofNat n)))) = some (.bool (!decide (Int.ofNat m = Int.ofNat n)))
 cases decide (Int.ofNat m = Int.ofNat n) <;> rfl
theorem CJ (m n : Nat) : Nat.blt m n = decide (Int.ofNat m < Int.ofNat n) := by
 rw [Bool.eq_iff_iff, decide_eq_true_iff, ZV]; simp only [Int.ofNat_eq_natCast]; omega
theorem CK (m n : Nat) : Nat.ble m n = decide (Int.ofNat m ≤ Int.ofNat n) := by
 rw [Bool.eq_iff_iff, decide_eq_true_iff, Nat.ble_eq]; simp only [Int.ofNat_eq_natCast]; omega
theorem Px (k : IntKind) (a b : Int) : MF k a b = zP .lss k a b := QR k a b .lss _ fun m n => by
 show some (Value.bool (Nat.blt m n)) = _
 rw [CJ]; rfl
theorem Py (k : IntKind) (a b : Int) : MG k a b = zP .leq k a b := QR k a b .leq _ fun m n => by rw [CK]; rfl
theorem Pz (k : IntKind) (a b : Int) : MH k a b = zP .gtr k a b := QR k a b .gtr _ fun m n => by
 show some (Value.bool (Nat.blt n m)) = _
 rw [CJ]; rfl
theorem PA (k : IntKind) (a b : Int) : MJ k a b = zP .geq k a b := QR k a b .geq _ fun m n => by rw [CK]; rfl
theorem Pv (k k' : IntKind) (a b : Int) : MD k a b = zY .shl (.int k a) (.int k' b) := Na k a b .shl _ fun m n => by
 rw [WY, Cu]
 simp only [ZZ, Gy, if_false]
 rfl
theorem F3 (m p : Nat) : Int.fdiv (.ofNat m) (.ofNat p) = .ofNat (m / p) := by
 cases m with
 | zero => simp [Int.fdiv]
 | succ m => rfl
theorem Pu (k k' : IntKind) (a b : Int) : MC k a b = zY .shr (.int k a) (.int k' b) := Na k a b .shr _ fun m n => by
 rw [Cu]
 simp only [ZZ, Gy, if_false]
 exact congrArg (fun z => some (Value.int k z)) (F3 _ _).symm
theorem SF (op : BinOp) : P8 op = .mk (zY op) := by
 cases op <;> first
  | rfl
  | exact Wk (by simp) (by simp) PC
  | exact Wk (by simp) (by simp) Pt
  | exact Wk (by simp) (by simp) Pw
  | exact Wk (by simp) (by simp) PB
  | exact Wk (by simp) (by simp) NP
  | exact Wk (by simp) (by simp) Ps
  | exact Wk (by simp) (by simp) CC
  | exact Wk (by simp) (by simp) CB
  | exact Wk (by simp) (by simp) Px
  | exact Wk (by simp) (by simp) Py
  | exact Wk (by simp) (by simp) Pz
  | exact Wk (by simp) (by simp) PA
  | exact Sd Pv
  | exact Sd Pu
inductive Rd where
 | mk (f : PT Value → Value)
def orU (o : Option Value) : Value := Option.rec Zb (fun v => v) o
def rd (x : Operand) : Rd := Operand.rec (motive := fun _ => Rd) (fun i => Rdx.rec (fun f => Rd.mk fun t => orU (f t)) (rdx i)) (fun v => Rd.mk fun _ => v) (fun _ => Rd.mk fun _ => Zb) (fun f => Rd.mk fun _ => .func (.func f) #[] #[]) x
theorem Co (x : Operand) : rd x = .mk fun t => ev t x := by
 cases x with
 | tmp i =>
  show Rdx.rec (motive := fun _ => Rd) (fun f => Rd.mk fun t => orU (f t)) (rdx i) = _
  rw [Vy]
  refine congrArg Rd.mk (funext fun t => ?_)
  show orU (t.get i) = (t.get i).getD Zb
  cases t.get i <;> rfl
 | const v => rfl
 | global g => rfl
 | func f => rfl
inductive La where
 | mk (f : PT Value → List Value)
def la (xs : List Operand) : La := List.rec (motive := fun _ => La) (La.mk fun _ => []) (fun x _ ih => Rd.rec (fun f => La.rec (fun g => La.mk fun t => f t :: g t) ih) (rd x)) xs
theorem SR : ∀ xs : List Operand, la xs = .mk fun t => xs.map (ev t)
 | [] => rfl
 | x :: xs => by
  show Rd.rec (motive := fun _ => La) (fun f => La.rec (motive := fun _ => La) (fun g => La.mk fun t => f t :: g t) (la xs)) (rd x) = _
  rw [Co, SR xs]
  rfl
def VP {β : Type} (f : Nat → β) (n : Nat) : β := Nat.rec (motive := fun _ => β) (f 0) (fun m _ => f (Nat.succ m)) n
theorem Ji {β : Type} (f : Nat → β) (n : Nat) : VP f n = f n := by cases n <;> rfl
def hp (s : DS) (k : Nat) : Option DObj := DS.rec (motive := fun _ => Option DObj) (fun h n v w => Bool.rec (motive := fun _ => Option DObj) none (Bool.rec (motive := fun _ => Option DObj) none (Rdx.rec (motive := fun _ => Option DObj) (fun f => f h) (rdx k)) (v k)) (Nat.ble (Nat.succ k) n)) s
theorem KC (s : DS) (k : Nat) : hp s k = s.get k := by
 unfold hp DS.get
 rw [Vy]
 show Bool.rec (motive := fun _ => Option DObj) none (Bool.rec (motive := fun _ => Option DObj) none (s.heap.get k) (s.vis k)) (Nat.blt k s.next) = _
 cases Nat.blt k s.next <;> cases s.vis k <;> rfl
inductive Nt where
 | mk (f : List Value → Option Value)
def nth (i : Nat) : Nt := Nat.rec (motive := fun _ => Nt) (Nt.mk (List.rec none fun x _ _ => some x)) (fun _ ih => Nt.rec (fun f => Nt.mk (List.rec none fun _ l _ => f l)) ih) i
theorem VE : ∀ i : Nat, nth i = .mk fun l => getN l i
 | 0 => congrArg Nt.mk (funext fun l => by cases l <;> rfl)
 | i + 1 => by
  show Nt.rec (motive := fun _ => Nt) (fun f => Nt.mk (List.rec none fun _ l _ => f l)) (nth i) = _
  rw [VE i]
  exact congrArg Nt.mk (funext fun l => by cases l <;> rfl)
inductive Ns where
 | mk (f : Value → List Value → List Value)
def DQ (i : Nat) : Ns := Nat.rec (motive := fun _ => Ns) (Ns.mk fun v => List.rec [] fun _ l _ => v :: l) (fun _ ih => Ns.rec (fun f => Ns.mk fun v => List.rec [] fun x l _ => x :: f v l) ih) i
theorem K0 : ∀ i : Nat, DQ i = .mk fun v l => Zd l i v
 | 0 => congrArg Ns.mk (funext fun v => funext fun l => by cases l <;> rfl)
 | i + 1 => by
  show Ns.rec (motive := fun _ => Ns) (fun f => Ns.mk fun v => List.rec [] fun x l _ => x :: f v l) (DQ i) = _
  rw [K0 i]
  exact congrArg Ns.mk (funext fun v => funext fun l => by cases l <;> rfl)
def Nn (c : Cells) (i : Nat) : Option Value :=
 Cells.rec (motive := fun _ => Option Value) (fun l => Nt.rec (motive := fun _ => Option Value) (fun f => f l) (nth i)) (fun n z t => Bool.rec (motive := fun _ => Option Value) none (some (Option.rec (motive := fun _ => Value) z (fun v => v) (Rdx.rec (motive := fun _ => Option Value) (fun f => f t) (rdx i)))) (Nat.ble (Nat.succ i) n)) (fun l => Nt.rec (motive := fun _ => Option Value) (fun f => f l) (nth i)) c
theorem Cg (c : Cells) (i : Nat) : Nn c i = c.get i := by
 cases c with
 | list l => show Nt.rec (motive := fun _ => Option Value) (fun f => f l) (nth i) = _; rw [VE]; rfl
 | str l => show Nt.rec (motive := fun _ => Option Value) (fun f => f l) (nth i) = _; rw [VE]; rfl
 | tree n z t =>
  show Bool.rec (motive := fun _ => Option Value) none (some (Option.rec (motive := fun _ => Value) z (fun v => v) (Rdx.rec (motive := fun _ => Option Value) (fun f => f t) (rdx i)))) (Nat.blt i n) = if i < n then some ((t.get i).getD z) else none
  rw [Vy]
  by_cases h : i < n
  · rw [Yd h, if_pos h]
    show some (Option.rec (motive := fun _ => Value) z (fun v => v) (t.get i)) = _
    cases t.get i <;> rfl
  · rw [Xq h, if_neg h]
def N9 (c : Cells) (i : Nat) (v : Value) : Cells :=
 Cells.rec (motive := fun _ => Cells) (fun l => .list (Ns.rec (motive := fun _ => List Value) (fun f => f v l) (DQ i))) (fun n z t => .tree n z (Bool.rec (motive := fun _ => PT Value) t (Wr.rec (motive := fun _ => PT Value) (fun w => w (some v) t) (wrs i)) (Nat.ble (Nat.succ i) n))) (fun l => .str (Ns.rec (motive := fun _ => List Value) (fun f => f v l) (DQ i))) c
theorem RV (c : Cells) (i : Nat) (v : Value) : N9 c i v = c.set i v := by
 cases c with
 | list l => show Cells.list (Ns.rec (motive := fun _ => List Value) (fun f => f v l) (DQ i)) = _; rw [K0]; rfl
 | str l => show Cells.str (Ns.rec (motive := fun _ => List Value) (fun f => f v l) (DQ i)) = _; rw [K0]; rfl
 | tree n z t =>
  show Cells.tree n z (Bool.rec (motive := fun _ => PT Value) t (Wr.rec (motive := fun _ => PT Value) (fun w => w (some v) t) (wrs i)) (Nat.blt i n)) = .tree n z (if i < n then t.put i (some v) else t)
  rw [Ke]
  by_cases h : i < n
  · rw [Yd h, if_pos h]
  · rw [Xq h, if_neg h]
def KP (s : DS) (o : DObj) : DS := DS.rec (motive := fun _ => DS) (fun h n v w => VP (fun n => DS.mk (Wr.rec (motive := fun _ => PT DObj) (fun f => f (some o) h) (wrs n)) (Nat.succ n) v w) n) s
theorem Qt (s : DS) (o : DObj) : KP s o = s.new o := by
 unfold KP
 cases s
 simp only [Ji, Ke]
 rfl
inductive XOp where
 | tot (f : PT Value → Value)
 | val (f : PT Value → DS → Option Value)
 | eff (f : PT Value → DS → Option DS)
 | neu (f : PT Value → DObj)
 | act (f : zN → PT Value → DS → Option (Value × DS))
def XOp.go (o : XOp) (call : zN) (t : PT Value) (s : DS) : Option (Value × DS) :=
 XOp.rec (motive := fun _ => Option (Value × DS)) (fun f => some (f t, s)) (fun f => Option.rec none (fun v => some (v, s)) (f t s)) (fun f => Option.rec none (fun s' => some (Zb, s')) (f t s))
  (fun f => some (.pointer (some ⟨s.next, 0, none⟩), KP s (f t))) (fun f => f call t s) o
def asN (v : Value) : Option Nat := IV.rec (motive := fun _ => Option Nat) none (fun _ a => Int.rec (motive := fun _ => Option Nat) (fun n => some n) (fun _ => none) a) (asI v)
theorem RE (v : Value) : asN v = Zj v := by
 unfold asN
 rw [QB]
 cases v with
 | int k a => cases a <;> rfl
 | _ => rfl
def lt1 (x : Operand) (F : (PT Value → Value) → XOp) : XOp := Rd.rec F (rd x)
theorem ZY (x : Operand) (F : (PT Value → Value) → XOp) : lt1 x F = F fun t => ev t x := by unfold lt1; rw [Co]
def V4 {β : Type} (z : β) (f : Cells → Bool → β) (o : Option DObj) : β := Option.rec z (DObj.rec f (fun _ _ => z) (fun _ _ _ _ => z) (fun _ _ _ _ _ _ => z) z) o
theorem Jk {β : Type} (z : β) (f : Cells → Bool → β) (o : Option DObj) : V4 z f o = (match o with | some (.cells c ro) => f c ro | _ => z) := by
 cases o with
 | none => rfl
 | some o => cases o <;> rfl
def xld (v : Value) (s : DS) : Option Value := PV.rec (motive := fun _ => Option Value) none (fun k off => V4 none (fun c _ => VP (fun off => Nn c off) off) (hp s k)) (asP v)
theorem Nm (ρ : Operand → Value) (s : DS) (a : Operand) : xld (ρ a) s = z9 ρ s (.ld none a) := by
 simp only [xld, J9, Ji, Jk, KC, Cg, z9]
 generalize ρ a = A
 cases A with
 | pointer p =>
  cases p with
  | none => rfl
  | some ad =>
   obtain ⟨k, off, sp⟩ := ad
   cases sp with
   | some z => rfl
   | none =>
    dsimp only
    cases s.get k with
    | none => rfl
    | some ob => cases ob <;> rfl
 | _ => rfl
def Tf : Value → Bool :=
 Value.rec (motive_1 := fun _ => Bool) (motive_2 := fun _ => PUnit) (motive_3 := fun _ => PUnit) (fun _ => true) (fun _ _ => true) (fun _ _ => true) (fun _ _ _ => true) (fun _ => true) (fun _ => true) (fun _ _ _ => true) (fun _ => true) (fun _ => true)
  (fun _ _ _ _ _ => true) true (fun _ _ _ => true) true (fun _ _ => false) (fun _ _ => false) (fun _ _ => ⟨⟩) ⟨⟩ (fun _ _ _ _ => ⟨⟩)
def JO (size : Nat) (a v : Value) (s : DS) : Option DS :=
 match a with
 | .pointer (some ⟨k, off, none⟩) =>
  let cs := v.cells.toList
  if Nat.beq cs.length size && allOne cs then s.write k off cs else none
 | _ => none
def CV (s : DS) (k : Nat) (o : DObj) : Option DS := DS.rec (motive := fun _ => Option DS) (fun h n vis wr => Bool.rec (motive := fun _ => Option DS) none (some (DS.mk (Wr.rec (motive := fun _ => PT DObj) (fun f => f (some o) h) (wrs k)) n vis wr)) (wr k)) s
theorem KU (s : DS) (k : Nat) (o : DObj) : CV s k o = s.set k o := by
 unfold CV DS.set
 rw [Ke]
 show Bool.rec (motive := fun _ => Option DS) none (some (DS.mk (s.heap.put k (some o)) s.next s.vis s.wr)) (s.wr k) = _
 cases s.wr k <;> rfl
def Nk (a v : Value) (s : DS) : Option DS :=
 Bool.rec (motive := fun _ => Option DS) (JO 1 a v s)
  (PV.rec (motive := fun _ => Option DS) none (fun k off => V4 none (fun c ro => Bool.rec (motive := fun _ => Option DS) (VP (fun off => Option.rec (motive := fun _ => Option DS) none (fun _ => CV s k (.cells (N9 c off v) false)) (Nn c off)) off) none ro) (hp s k)) (asP a)) (Tf v)
end
end Go.Dx
set_option linter.unusedVariables false
set_option linter.unusedSimpArgs false
set_option linter.unusedSectionVars false
namespace Go.Dx
open Go
noncomputable section
theorem DP {v : Value} (h : Tf v = true) : v.cells.toList = [v] ∧ zQ v = true := by
 cases v <;> first | exact ⟨rfl, rfl⟩ | cases h
theorem Vo : ∀ (l : List Value) (i : Nat), (getN l i).isSome = Nat.ble (i + 1) l.length
 | [], i => rfl
 | x :: l, 0 => rfl
 | x :: l, i + 1 => Vo l i
theorem Cx (c : Cells) (i : Nat) : (c.get i).isSome = Nat.ble (i + 1) c.size := by
 cases c with
 | list l => exact Vo l i
 | str l => exact Vo l i
 | tree n z t =>
  show (if i < n then some ((t.get i).getD z) else none).isSome = Nat.blt i n
  by_cases h : i < n
  · rw [if_pos h, Yd h]; rfl
  · rw [if_neg h, Xq h]; rfl
theorem RS (a v : Value) (s : DS) : Nk a v s = JO 1 a v s := by
 unfold Nk
 cases h : Tf v with
 | false => rfl
 | true =>
  show PV.rec (motive := fun _ => Option DS) none _ (asP a) = _
  rw [J9]
  obtain ⟨h1, h2⟩ := DP h
  cases a with
  | pointer p =>
   cases p with
   | none => rfl
   | some ad =>
    obtain ⟨k, off, sp⟩ := ad
    cases sp with
    | some z => rfl
    | none =>
     have hc : (Nat.beq v.cells.toList.length 1 && allOne v.cells.toList) = true := by
      rw [h1]; simp only [List.length_singleton, allOne, h2]; rfl
     simp only [JO, hc, if_true, Ji, Jk, KC, Cg, RV, KU]
     unfold DS.write
     rw [h1]
     cases s.get k with
     | none => rfl
     | some ob =>
      cases ob with
      | cells c ro =>
       cases ro with
       | true => rfl
       | false =>
        have hp := Cx c off
        show Option.rec (motive := fun _ => Option DS) none (fun _ => s.set k (.cells (c.set off v) false)) (c.get off) = if Nat.ble (off + 1) c.size = true then s.set k (.cells (c.set off v) false) else none
        rw [← hp]
        cases c.get off <;> rfl
      | _ => rfl
  | _ => rfl
def KQ (l : List Value) : Nat := List.rec (motive := fun _ => Nat) 0 (fun _ _ ih => Nat.succ ih) l
theorem Wo : ∀ l : List Value, KQ l = l.length
 | [] => rfl
 | _ :: l => congrArg Nat.succ (Wo l)
def Cb (l : List Value) : Bool := List.rec (motive := fun _ => Bool) true (fun v _ ih => Bool.rec (motive := fun _ => Bool) false ih (Tf v)) l
theorem Pe (v : Value) : Tf v = zQ v := by cases v <;> rfl
theorem K9 : ∀ l : List Value, Cb l = allOne l
 | [] => rfl
 | v :: l => by
  show Bool.rec (motive := fun _ => Bool) false (Cb l) (Tf v) = (zQ v && allOne l)
  rw [Pe, K9 l]
  cases zQ v <;> rfl
def F7 (n : Nat) : List Value → List Value := Nat.rec (motive := fun _ => List Value → List Value) (fun l => l) (fun _ ih l => List.rec (motive := fun _ => List Value) [] (fun _ t _ => ih t) l) n
theorem VX : ∀ (n : Nat) (l : List Value), F7 n l = l.drop n
 | 0, _ => rfl
 | n + 1, [] => rfl
 | n + 1, _ :: l => VX n l
def tkX (n : Nat) : List Value → Option (List Value) := Nat.rec (motive := fun _ => List Value → Option (List Value)) (fun _ => some []) (fun _ ih l => List.rec (motive := fun _ => Option (List Value)) none (fun x t _ => Option.rec (motive := fun _ => Option (List Value)) none (fun r => some (x :: r)) (ih t)) l) n
theorem GA : ∀ (l : List Value) (off : Nat), getN l off = (l.drop off).head?
 | [], off => by simp [getN]
 | x :: l, 0 => rfl
 | x :: l, off + 1 => GA l off
theorem DE (c : Cells) (l : List Value) (hc : ∀ i, c.get i = getN l i) : ∀ (n off : Nat), tkX n (l.drop off) = c.take off n
 | 0, _ => rfl
 | n + 1, off => by
  simp only [Cells.take, hc, GA]
  cases hd : l.drop off with
  | nil => rfl
  | cons x t =>
   have ht : t = l.drop (off + 1) := by
    rw [← List.drop_drop, hd]; rfl
   show Option.rec (motive := fun _ => Option (List Value)) none (fun r => some (x :: r)) (tkX n t) = (match c.take (off + 1) n with | none => none | some l => some (x :: l))
   rw [ht, DE c l hc n (off + 1)]
   cases c.take (off + 1) n <;> rfl
def Tz (c : Cells) (off n : Nat) : Option (List Value) := Cells.rec (motive := fun _ => Option (List Value)) (fun l => tkX n (F7 off l)) (fun _ _ _ => c.take off n) (fun l => tkX n (F7 off l)) c
theorem Fo (c : Cells) (off n : Nat) : Tz c off n = c.take off n := by
 cases c with
 | list l => show tkX n (F7 off l) = _; rw [VX]; exact DE _ l (fun _ => rfl) n off
 | str l => show tkX n (F7 off l) = _; rw [VX]; exact DE _ l (fun _ => rfl) n off
 | tree m z t => rfl
def Ms (vs : List Value) : List Value → List Value := List.rec (motive := fun _ => List Value → List Value) (fun l => l) (fun v _ ih l => List.rec (motive := fun _ => List Value) [] (fun _ t _ => v :: ih t) l) vs
def VS (off : Nat) (vs : List Value) : List Value → List Value := Nat.rec (motive := fun _ => List Value → List Value) (Ms vs) (fun _ ih l => List.rec (motive := fun _ => List Value) [] (fun x t _ => x :: ih t) l) off
theorem Kn : ∀ (off : Nat) (l : List Value), VS off [] l = l
 | 0, _ => rfl
 | off + 1, [] => rfl
 | off + 1, x :: l => congrArg (x :: ·) (Kn off l)
theorem JD : ∀ (off : Nat) (v : Value) (vs l : List Value), VS off (v :: vs) l = VS (off + 1) vs (Zd l off v)
 | 0, v, vs, [] => by cases vs <;> rfl
 | 0, v, vs, x :: l => rfl
 | off + 1, v, vs, [] => rfl
 | off + 1, v, vs, x :: l => congrArg (x :: ·) (JD off v vs l)
theorem VR : ∀ (vs : List Value) (off : Nat) (l : List Value), Cells.list (VS off vs l) = (Cells.list l).fillFrom off vs
 | [], off, l => by rw [Kn]; rfl
 | v :: vs, off, l => by rw [JD]; exact VR vs (off + 1) _
theorem GC : ∀ (vs : List Value) (off : Nat) (l : List Value), Cells.str (VS off vs l) = (Cells.str l).fillFrom off vs
 | [], off, l => by rw [Kn]; rfl
 | v :: vs, off, l => by rw [JD]; exact GC vs (off + 1) _
def PZ (c : Cells) (off : Nat) (vs : List Value) : Cells := Cells.rec (motive := fun _ => Cells) (fun l => .list (VS off vs l)) (fun _ _ _ => c.fillFrom off vs) (fun l => .str (VS off vs l)) c
theorem TD (c : Cells) (off : Nat) (vs : List Value) : PZ c off vs = c.fillFrom off vs := by
 cases c with
 | list l => exact VR vs off l
 | str l => exact GC vs off l
 | tree m z t => rfl
def PW (c : Cells) : Nat := Cells.rec (motive := fun _ => Nat) KQ (fun n _ _ => n) KQ c
theorem TA (c : Cells) : PW c = c.size := by
 cases c with
 | list l => exact Wo l
 | str l => exact Wo l
 | tree m z t => rfl
def Gq (s : DS) (k off n : Nat) : Option (List Value) := V4 none (fun c _ => Tz c off n) (hp s k)
theorem QI (s : DS) (k off n : Nat) : Gq s k off n = s.read k off n := by
 unfold Gq DS.read
 simp only [Jk, KC, Fo]
 cases s.get k with
 | none => rfl
 | some ob => cases ob <;> rfl
def Vc (s : DS) (k off : Nat) (l : List Value) : Option DS :=
 V4 none (fun c ro => Bool.rec (motive := fun _ => Option DS) (Bool.rec (motive := fun _ => Option DS) none (CV s k (.cells (PZ c off l) false)) (Nat.ble (Nat.add off (KQ l)) (PW c))) none ro) (hp s k)
theorem Kc (s : DS) (k off : Nat) (l : List Value) : Vc s k off l = s.write k off l := by
 unfold Vc DS.write
 simp only [Jk, KC, TD, KU, TA, Wo, QA]
 cases s.get k with
 | none => rfl
 | some ob =>
  cases ob with
  | cells c ro => cases ro <;> rfl
  | _ => rfl
def PO (l r : List Value) : List Value := List.rec (motive := fun _ => List Value) l (fun _ _ _ => l ++ r) r
theorem PN (l r : List Value) : PO l r = l ++ r := by
 cases r with
 | nil => exact (List.append_nil l).symm
 | cons x r => rfl
def Tw (l r : List Value) : List Value := List.rec (motive := fun _ => List Value) r (fun x _ ih => x :: ih) l
theorem CN (l r : List Value) : Tw l r = l ++ r := by
 induction l with
 | nil => rfl
 | cons x l ih => exact congrArg (x :: ·) ih
def evX (t : PT Value) (x : Operand) : Value := Rd.rec (motive := fun _ => Value) (fun f => f t) (rd x)
theorem G8 (t : PT Value) : evX t = ev t := by
 funext x
 unfold evX
 rw [Co]
def Fy (n : Nat) (k : List Value → Option (List Value)) : List Value → Option (List Value) :=
 Nat.rec (motive := fun _ => List Value → Option (List Value)) k (fun _ ih zs => List.rec (motive := fun _ => Option (List Value)) none (fun z t _ => Option.rec (motive := fun _ => Option (List Value)) none (fun r => some (z :: r)) (ih t)) zs) n
def FG (vs : List Value) (k : List Value → Option (List Value)) : List Value → Option (List Value) :=
 List.rec (motive := fun _ => List Value → Option (List Value)) k (fun v _ ih zs => List.rec (motive := fun _ => Option (List Value)) none (fun _ t _ => Option.rec (motive := fun _ => Option (List Value)) none (fun r => some (v :: r)) (ih t)) zs) vs
def CA (ρ : Operand → Value) (parts : List (Nat × Nat × Operand)) : Nat → List Value → Option (List Value) :=
 List.rec (motive := fun _ => Nat → List Value → Option (List Value)) (fun _ zs => some zs)
  (fun p _ ih pos zs => Bool.rec (motive := fun _ => Option (List Value)) none (Bool.rec (motive := fun _ => Option (List Value)) none
   (Fy (Nat.sub p.1 pos) (FG (ρ p.2.2).cells.toList (ih (Nat.add p.1 p.2.1))) zs) (Nat.beq (KQ (ρ p.2.2).cells.toList) p.2.1)) (Nat.ble pos p.1)) parts
theorem Vm : ∀ (n : Nat) (k : List Value → Option (List Value)) (zs r : List Value), Fy n k zs = some r → ∃ a t r', zs = a ++ t ∧ a.length = n ∧ k t = some r' ∧ r = a ++ r'
 | 0, k, zs, r, h => ⟨[], zs, r, rfl, rfl, h, rfl⟩
 | n + 1, k, [], r, h => by cases h
 | n + 1, k, z :: zs, r, h => by
  have h : Option.rec (motive := fun _ => Option (List Value)) none (fun r => some (z :: r)) (Fy n k zs) = some r := h
  cases h1 : Fy n k zs with
  | none => rw [h1] at h; cases h
  | some r1 =>
   rw [h1] at h
   cases h
   obtain ⟨a, t, r', rfl, hl, hk, rfl⟩ := Vm n k zs r1 h1
   exact ⟨z :: a, t, r', rfl, congrArg Nat.succ hl, hk, rfl⟩
theorem VC : ∀ (vs : List Value) (k : List Value → Option (List Value)) (zs r : List Value), FG vs k zs = some r → ∃ a t r', zs = a ++ t ∧ a.length = vs.length ∧ k t = some r' ∧ r = vs ++ r'
 | [], k, zs, r, h => ⟨[], zs, r, rfl, rfl, h, rfl⟩
 | v :: vs, k, [], r, h => by cases h
 | v :: vs, k, z :: zs, r, h => by
  have h : Option.rec (motive := fun _ => Option (List Value)) none (fun r => some (v :: r)) (FG vs k zs) = some r := h
  cases h1 : FG vs k zs with
  | none => rw [h1] at h; cases h
  | some r1 =>
   rw [h1] at h
   cases h
   obtain ⟨a, t, r', rfl, hl, hk, rfl⟩ := VC vs k zs r1 h1
   exact ⟨z :: a, t, r', rfl, congrArg Nat.succ hl, hk, rfl⟩
theorem VU (ρ : Operand → Value) : ∀ (parts : List (Nat × Nat × Operand)) (pos : Nat) (zs r pre : List Value), CA ρ parts pos zs = some r → pre.length = pos → zL ρ (pre ++ zs) parts = some (pre ++ r)
 | [], pos, zs, r, pre, h, hp => by cases h; rfl
 | (off, size, x) :: rest, pos, zs, r, pre, h, hp => by
  have h : Bool.rec (motive := fun _ => Option (List Value)) none (Bool.rec (motive := fun _ => Option (List Value)) none
   (Fy (Nat.sub off pos) (FG (ρ x).cells.toList (CA ρ rest (Nat.add off size))) zs) (Nat.beq (KQ (ρ x).cells.toList) size)) (Nat.ble pos off) = some r := h
  cases h1 : Nat.ble pos off with
  | false => rw [h1] at h; cases h
  | true =>
   rw [h1] at h
   cases h2 : Nat.beq (KQ (ρ x).cells.toList) size with
   | false => rw [h2] at h; cases h
   | true =>
    rw [h2] at h
    obtain ⟨a, t, r', rfl, hl, hk, rfl⟩ := Vm _ _ _ _ h
    obtain ⟨b, t', r'', rfl, hl', hk', rfl⟩ := VC _ _ _ _ hk
    have hle := Nat.le_of_ble_eq_true h1
    have hsz := Nat.eq_of_beq_eq_true h2
    rw [Wo] at hsz h2
    have hoff : (pre ++ a).length = off := by rw [List.length_append, hp, hl]; show pos + (off - pos) = off; omega
    have hb : b.length = size := hl'.trans hsz
    simp only [zL]
    have hcond : (Nat.beq (ρ x).cells.toList.length size && Nat.ble (off + size) (pre ++ (a ++ (b ++ t'))).length) = true := by
     rw [h2]
     simp only [Bool.true_and, Nat.ble_eq, List.length_append]
     rw [List.length_append] at hoff
     omega
    rw [if_pos hcond]
    have e1 : (pre ++ (a ++ (b ++ t'))).take off = pre ++ a := by
     rw [← List.append_assoc, ← hoff, List.take_left]
    have e2 : (pre ++ (a ++ (b ++ t'))).drop (off + size) = t' := by
     have : pre ++ (a ++ (b ++ t')) = (pre ++ a ++ b) ++ t' := by simp [List.append_assoc]
     rw [this]
     have hlen : (pre ++ a ++ b).length = off + size := by rw [List.length_append, hoff, hb]
     rw [← hlen, List.drop_left]
    rw [e1, e2]
    have := VU ρ rest (off + size) t' r'' (pre ++ a ++ (ρ x).cells.toList) hk' (by rw [List.length_append, hoff, hsz])
    simpa [List.append_assoc] using this
def GQ (ρ : Operand → Value) (z : List Value) (parts : List (Nat × Nat × Operand)) : Option (List Value) := Option.rec (motive := fun _ => Option (List Value)) (zL ρ z parts) (fun r => some r) (CA ρ parts 0 z)
theorem Gr (ρ : Operand → Value) (z : List Value) (parts : List (Nat × Nat × Operand)) : GQ ρ z parts = zL ρ z parts := by
 unfold GQ
 cases h : CA ρ parts 0 z with
 | none => rfl
 | some r => exact (VU ρ parts 0 z r [] h rfl).symm
def RU (s : DS) (size : Nat) (x : Value) (n : Nat) : Option (List Value) :=
 match x with
 | .slice none _ _ => some []
 | .slice (some ⟨k, off, _⟩) _ _ => Gq s k off (n * size)
 | .string b => some ((b.data.toList.take n).map fun c => .int .u8 c.toNat)
 | _ => none
theorem Ce (s : DS) (size : Nat) (x : Value) (n : Nat) : RU s size x n = Yh s size x n := by
 unfold RU Yh
 simp only [QI]
 cases x with
 | slice a l c =>
  cases a with
  | none => rfl
  | some ad => obtain ⟨k, o, sp⟩ := ad; rfl
 | _ => rfl
def Sh (v : Value) : Option Value := BV.rec (motive := fun _ => Option Value) none (fun b => some (.bool (Bool.rec (motive := fun _ => Bool) true false b))) (asB v)
def DH (c a b : Value) : Option Value := BV.rec (motive := fun _ => Option Value) none (fun c => some (Bool.rec (motive := fun _ => Value) b a c)) (asB c)
def GW (k : IntKind) (v : Value) : Option Value := IV.rec (motive := fun _ => Option Value) none (fun _ a => some (.int k (Int.rec (motive := fun _ => Int) (fun m => KR k m) (fun _ => zR k a) a))) (asI v)
def Si (v : Value) : Option Value := match v with
 | .pointer (some a) => some (.pointer (some a))
 | .func (.func f) a b => some (.func (.func f) a b)
 | .func (.yield l) a b => some (.func (.yield l) a b)
 | _ => none
def TF (v : Value) : Option Value := AV.rec (motive := fun _ => Option Value) (Si v) (Option.rec none fun a => some (.pointer (some a))) (asA v)
def DJ (off : Nat) (v : Value) : Option Value := PV.rec (motive := fun _ => Option Value) none (fun k o => some (.pointer (some ⟨k, Nat.add o off, none⟩))) (asP v)
def Sm (n size : Nat) (x i : Value) : Option Value := PV.rec (motive := fun _ => Option Value) none (fun k o => Option.rec (motive := fun _ => Option Value) none (fun j => Bool.rec (motive := fun _ => Option Value) none (some (.pointer (some ⟨k, Nat.add o (Nat.mul j size), none⟩))) (Nat.ble (Nat.succ j) n)) (asN i)) (asP x)
def Sk (size : Nat) (x i : Value) : Option Value := LV.rec (motive := fun _ => Option Value) none (fun a len _ => Option.rec (motive := fun _ => Option Value) none (Addr.rec (motive := fun _ => Option Value) fun k o _ => Option.rec (motive := fun _ => Option Value) none (fun j => Bool.rec (motive := fun _ => Option Value) none (some (.pointer (some ⟨k, Nat.add o (Nat.mul j size), none⟩))) (Nat.ble (Nat.succ j) len)) (asN i)) a) (asL x)
def DI (v : Value) : Option Value := LV.rec (motive := fun _ => Option Value) none (fun _ n _ => some (.int .i64 (Int.ofNat n))) (asL v)
def So (i : Nat) (v : Value) : Option Value := TV.rec (motive := fun _ => Option Value) none (fun l => Nt.rec (motive := fun _ => Option Value) (fun f => f l) (nth i)) (asT v)
def Sp (neg : Bool) (x y : Value) : Option Value := IV.rec (motive := fun _ => Option Value) none (fun k a => IV.rec (motive := fun _ => Option Value) none (fun k' b => Bool.rec (motive := fun _ => Option Value) none (Bool.rec (motive := fun _ => Option Value) (NR k a b) (NQ k a b) neg) (Nat.beq (kcd k) (kcd k'))) (asI y)) (asI x)
def Vs (neg : Bool) (k : SK) (x y : Value) : Option Value := Option.rec none (fun b => some (.bool (Bool.rec b (Bool.rec true false b) neg))) (Zl k x y)
def P6 (neg : Bool) (x y : Value) : Option Value :=
 AV.rec (motive := fun _ => Option Value) none (fun a => AV.rec (motive := fun _ => Option Value) none (fun b => Option.rec (motive := fun _ => Option Value) (some (.bool (Option.rec (motive := fun _ => Bool) (Bool.rec (motive := fun _ => Bool) true false neg) (fun _ => Bool.rec (motive := fun _ => Bool) false true neg) b))) (fun _ => Option.rec (motive := fun _ => Option Value) (some (.bool (Bool.rec (motive := fun _ => Bool) false true neg))) (fun _ => Vs neg .ptr x y) b) a) (asA y)) (asA x)
def Cm (z : List Value) (parts : List (Nat × Nat × Operand)) (ρ : Operand → Value) : Option Value := match GQ ρ z parts with | some cs => some (.agg ⟨cs⟩) | none => none
def P3 (size : Nat) (x : Value) (lo hi mx : Option Value) : Option Value :=
 match x with
 | .slice a len cap => match ZQ len cap lo hi mx with
  | some (l, h, m) => Ye a size l h m mx.isSome
  | none => none
 | _ => none
def P4 (n size : Nat) (x : Value) (lo hi mx : Option Value) : Option Value :=
 match x with
 | .pointer (some ⟨k, off, none⟩) => match ZQ n n lo hi mx with
  | some (l, h, m) => Ye (some ⟨k, off, none⟩) size l h m true
  | none => none
 | _ => none
def Mn (off : Nat) (agg : Option Nat) (x : Value) : Option Value := match x with | .agg cs => partOf agg cs.toList off | _ => none
def NC (n size : Nat) (agg : Option Nat) (x i : Value) : Option Value :=
 match x, Zj i with
 | .agg cs, some j => if Nat.blt j n then partOf agg cs.toList (j * size) else none
 | _, _ => none
def NB (x i : Value) : Option Value :=
 match x, Zj i with
 | .string s, some j => match s.data.toList.drop j with
  | c :: _ => some (.int .u8 c.toNat)
  | [] => none
 | _, _ => none
def NA (x : Value) : Option Value := match x with | .string s => some (.int .i64 s.data.toList.length) | _ => none
def P5 (n : Nat) (a : Value) (s : DS) : Option Value :=
 match a with
 | .pointer (some ⟨k, off, none⟩) => match Gq s k off n with
  | some l => some (.agg ⟨l⟩)
  | none => none
 | _ => none
def Cl (x : Value) (s : DS) : Option Value :=
 match x with
 | .slice none _ _ => some (.string ⟨⟨[]⟩⟩)
 | .slice (some ⟨k, off, _⟩) len _ => match Gq s k off len with
  | some l => match Wa l with
   | some b => some (.string ⟨⟨b⟩⟩)
   | none => none
  | none => none
 | _ => none
def Vt (n size : Nat) (z : List Value) (parts : List (Nat × Nat × Operand)) (ρ : Operand → Value) (s : DS) : Option (Value × DS) :=
 if Nat.ble (n * size) 1048576 then
  match GQ ρ (repeatZ z n) parts with
  | some cs => some (.slice (some ⟨s.next, 0, none⟩) n n, KP s (.cells (.list cs) false))
  | none => none
 else none
def Kh (bytes : Nat) (z : List Value) (l c : Value) (s : DS) : Option (Value × DS) :=
 match Zj l, Zj c with
 | some l, some c =>
  if Nat.ble l c && Nat.ble c 1099511627776 && Nat.ble (c * bytes) 1099511627776 then
   some (.slice (some ⟨s.next, 0, none⟩) l c, KP s (.cells (match z with | [v] => if Nat.blt 32 c then .tree c v .nil else .list (repeatZ z c) | _ => .list (repeatZ z c)) false))
  else none
 | _, _ => none
def DL (bytes size : Nat) (x y : Value) (s : DS) : Option (Value × DS) :=
 match x, Wl y with
 | .slice base len cap, some n =>
  match RU s size y n with
  | none => none
  | some new =>
   if !(Nat.beq (KQ new) (n * size) && Cb new) then none else
   if Nat.ble (len + n) cap then
    match base with
    | none => if Nat.beq n 0 then some (.slice none (len + n) cap, s) else none
    | some ⟨k, off, sp⟩ =>
     if Nat.beq n 0 then some (.slice (some ⟨k, off, sp⟩) (len + n) cap, s) else
     match Vc s k (off + len * size) new with
     | some s' => some (.slice (some ⟨k, off, sp⟩) (len + n) cap, s')
     | none => none
   else if Nat.ble (len + n) 1099511627776 && Nat.ble ((len + n) * bytes) 1099511627776 then
    match base with
    | none => if Nat.beq len 0 then some (.slice (some ⟨s.next, 0, some size⟩) n n, KP s (.cells (.list new) false)) else none
    | some ⟨k, off, none⟩ =>
     match Gq s k off (len * size) with
     | some old => if Cb old then some (.slice (some ⟨s.next, 0, some size⟩) (len + n) (len + n), KP s (.cells (.list (Tw old new)) false)) else none
     | none => none
    | some ⟨k, off, some sz⟩ =>
     if Nat.beq sz size then
      match hp s k with
      | some (.cells c false) => match Tz c off (len * size), s.kill k with
       | some old, some s' => if Cb old then some (.slice (some ⟨s'.next, 0, some size⟩) (len + n) (len + n), KP s' (.cells (c.like (Tw old new)) false)) else none
       | _, _ => none
      | _ => none
     else none
   else none
 | _, _ => none
def GX (size : Nat) (d x : Value) (s : DS) : Option (Value × DS) :=
 match d, Wl x with
 | .slice base len _, some m =>
  let n := if Nat.ble m len then m else len
  match RU s size x n with
  | none => none
  | some new =>
   if !(Nat.beq (KQ new) (n * size) && Cb new) then none else
   match base with
   | none => some (.int .i64 n, s)
   | some ⟨k, off, _⟩ =>
    if Nat.beq n 0 then some (.int .i64 n, s) else
    match Vc s k off new with
    | some s' => some (.int .i64 n, s')
    | none => none
 | _, _ => none
def R0 (size : Nat) (a v : Value) (s : DS) : Option DS :=
 PV.rec (motive := fun _ => Option DS) none (fun k off => Bool.rec (motive := fun _ => Option DS) none (Bool.rec (motive := fun _ => Option DS) none (Vc s k off v.cells.toList) (Cb v.cells.toList)) (Nat.beq (KQ v.cells.toList) size)) (asP a)
theorem RZ (size : Nat) (a v : Value) (s : DS) : R0 size a v s = JO size a v s := by
 simp only [R0, J9, Kc, K9, Wo, QA, JO]
 cases a with
 | pointer p =>
  cases p with
  | none => rfl
  | some ad =>
   obtain ⟨k, off, sp⟩ := ad
   cases sp with
   | some z => rfl
   | none => dsimp only; cases Nat.beq v.cells.toList.length size <;> cases allOne v.cells.toList <;> rfl
 | _ => rfl
def xop (o : DOp) : XOp :=
 match o with
 | .mv x => lt1 x fun f => .tot f
 | .bin op x y => Bf.rec (fun g => lt1 x fun f => lt1 y fun h => .val fun t _ => g (f t) (h t)) (P8 op)
 | .eq neg (.one .int) x y => lt1 x fun f => lt1 y fun h => .val fun t _ => Sp neg (f t) (h t)
 | .eq neg (.one .ptr) x y => lt1 x fun f => lt1 y fun h => .val fun t _ => P6 neg (f t) (h t)
 | .eq neg (.one k) x y => lt1 x fun f => lt1 y fun h => .val fun t _ => Vs neg k (f t) (h t)
 | .un .not x => lt1 x fun f => .val fun t _ => Sh (f t)
 | .pick c a b => lt1 c fun f => lt1 a fun g => lt1 b fun h => .val fun t _ => DH (f t) (g t) (h t)
 | .cvInt k x => lt1 x fun f => .val fun t _ => GW k (f t)
 | .nilck x => lt1 x fun f => .val fun t _ => TF (f t)
 | .alloc z => .neu fun _ => .cells (.list z) false
 | .box x => lt1 x fun f => .neu fun t => .cells (.list (f t).cells.toList) false
 | .build z parts => .val fun t _ => Cm z parts (evX t)
 | .bslice n size z parts => .act fun _ t s => Vt n size z parts (evX t) s
 | .ld none a => lt1 a fun f => .val fun t s => xld (f t) s
 | .ld (some n) a => lt1 a fun f => .val fun t s => P5 n (f t) s
 | .st 1 a x => lt1 a fun f => lt1 x fun g => .eff fun t s => Nk (f t) (g t) s
 | .st size a x => lt1 a fun f => lt1 x fun g => .eff fun t s => R0 size (f t) (g t) s
 | .mkf f first captured => La.rec (fun g => La.rec (fun h => .tot fun t => .func (.func f) ⟨g t⟩ ⟨h t⟩) (la captured)) (la first)
 | .mkslice bytes z l c => lt1 l fun f => lt1 c fun g => .act fun _ t s => Kh bytes z (f t) (g t) s
 | .slL size x lo hi mx => lt1 x fun f => .val fun t _ => P3 size (f t) (lo.map (evX t)) (hi.map (evX t)) (mx.map (evX t))
 | .slA n size x lo hi mx => lt1 x fun f => .val fun t _ => P4 n size (f t) (lo.map (evX t)) (hi.map (evX t)) (mx.map (evX t))
 | .fadr off x => lt1 x fun f => .val fun t _ => DJ off (f t)
 | .fld off agg x => lt1 x fun f => .val fun t _ => Mn off agg (f t)
 | .ixA n size x i => lt1 x fun f => lt1 i fun g => .val fun t _ => Sm n size (f t) (g t)
 | .ixL size x i => lt1 x fun f => lt1 i fun g => .val fun t _ => Sk size (f t) (g t)
 | .idxA n size agg x i => lt1 x fun f => lt1 i fun g => .val fun t _ => NC n size agg (f t) (g t)
 | .idxS x i => lt1 x fun f => lt1 i fun g => .val fun t _ => NB (f t) (g t)
 | .ext x i => lt1 x fun f => .val fun t _ => So i (f t)
 | .blenL x => lt1 x fun f => .val fun t _ => DI (f t)
 | .blenS x => lt1 x fun f => .val fun t _ => NA (f t)
 | .cvToStr x => lt1 x fun f => .val fun t s => Cl (f t) s
 | .bapp bytes size x y => lt1 x fun f => lt1 y fun g => .act fun _ t s => DL bytes size (f t) (g t) s
 | .bcopy size x y => lt1 x fun f => lt1 y fun g => .act fun _ t s => GX size (f t) (g t) s
 | .call f args => lt1 f fun g => La.rec (fun h => .act fun call t s => call (g t) (h t) s) (la args)
 | o => .act fun call t s => dop call (ev t) s o
end
end Go.Dx
set_option linter.unusedVariables false
set_option linter.unusedSimpArgs false
set_option linter.unusedSectionVars false
namespace Go.Dx
open Go
noncomputable section
variable (ρ : Operand → Value)
theorem Sg (x : Operand) : Sh (ρ x) = zm ρ (.un .not x) := by
 simp only [Sh, K7, zm]
 generalize ρ x = A
 cases A with
 | bool b => cases b <;> rfl
 | _ => rfl
theorem C3 (c a b : Operand) : DH (ρ c) (ρ a) (ρ b) = zm ρ (.pick c a b) := by
 simp only [DH, K7, zm]
 generalize ρ c = A
 cases A with
 | bool b => cases b <;> rfl
 | _ => rfl
theorem DK (k : IntKind) (x : Operand) : GW k (ρ x) = zm ρ (.cvInt k x) := by
 simp only [GW, QB, zm]
 generalize ρ x = A
 cases A with
 | int j a =>
  cases a with
  | ofNat m => show some (Value.int k (KR k m)) = _; rw [WY]
  | negSucc m => rfl
 | _ => rfl
theorem TE (x : Operand) : TF (ρ x) = zm ρ (.nilck x) := by
 simp only [TF, zm]
 generalize ρ x = A
 cases A with
 | pointer p => cases p <;> rfl
 | func g a b => cases g <;> rfl
 | _ => rfl
theorem C5 (off : Nat) (x : Operand) : DJ off (ρ x) = zm ρ (.fadr off x) := by
 simp only [DJ, J9, zm]
 generalize ρ x = A
 cases A with
 | pointer p =>
  cases p with
  | none => rfl
  | some ad =>
   obtain ⟨k, o, sp⟩ := ad
   cases sp <;> rfl
 | _ => rfl
theorem PJ {α : Type} (c : Bool) (a b : α) : _root_.cond c a b = if c = true then a else b := by cases c <;> rfl
theorem Sl (n size : Nat) (x i : Operand) : Sm n size (ρ x) (ρ i) = zm ρ (.ixA n size x i) := by
 simp only [Sm, J9, RE, zm, QA]
 generalize ρ x = A
 cases A with
 | pointer p =>
  cases p with
  | none => rfl
  | some ad =>
   obtain ⟨k, o, sp⟩ := ad
   cases sp with
   | some z => rfl
   | none => dsimp only; cases Zj (ρ i) <;> rfl
 | _ => rfl
theorem Sj (size : Nat) (x i : Operand) : Sk size (ρ x) (ρ i) = zm ρ (.ixL size x i) := by
 simp only [Sk, CM, RE, zm, QA]
 generalize ρ x = A
 cases A with
 | slice p len cap =>
  cases p with
  | none => rfl
  | some ad =>
   obtain ⟨k, o, sp⟩ := ad
   dsimp only; cases Zj (ρ i) <;> rfl
 | _ => rfl
theorem C4 (x : Operand) : DI (ρ x) = zm ρ (.blenL x) := by
 simp only [DI, CM, zm]
 generalize ρ x = A
 cases A <;> rfl
theorem Sn (x : Operand) (i : Nat) : So i (ρ x) = zm ρ (.ext x i) := by
 simp only [So, PL, zm, VE]
 generalize ρ x = A
 cases A <;> rfl
theorem PE (k : SK) (x y : Value) : XY 5000 (.one k) x y = Zl k x y := by
 show XY (4999 + 1) (.one k) x y = _
 simp only [XY]
theorem Vr (neg : Bool) (k : SK) (x y : Operand) : Vs neg k (ρ x) (ρ y) = zm ρ (.eq neg (.one k) x y) := by
 simp only [Vs, zm, PE]
 cases Zl k (ρ x) (ρ y) with
 | none => rfl
 | some b => cases neg <;> cases b <;> rfl
theorem C7 (neg : Bool) (x y : Value) : Sp neg x y = Vs neg .int x y := by
 simp only [Sp, Vs, QB]
 cases x with
 | int k a =>
  cases y with
  | int k' b =>
   simp only [Zl, Gw, CC, CB]
   by_cases e : k = k'
   · subst e
     simp only [decide_true, if_true]
     cases neg with
     | false => rfl
     | true => show zP .neq k a b = some (.bool (Bool.rec true false (decide (a = b)))); simp only [zP]; cases decide (a = b) <;> rfl
   · simp only [decide_eq_false e, if_neg e]
  | _ => rfl
 | _ => rfl
theorem C6 (neg : Bool) (x y : Value) : P6 neg x y = Vs neg .ptr x y := by
 cases x with
 | pointer a =>
  cases y with
  | pointer b =>
   cases a with
   | none => cases b <;> cases neg <;> rfl
   | some a => cases b with
    | none => cases neg <;> rfl
    | some b => rfl
  | _ => first | rfl | (cases a with | none => rfl | some a => rfl)
 | _ => rfl
theorem GV (s : DS) (size : Nat) (a x : Operand) : (Option.rec (motive := fun _ => Option (Value × DS)) none (fun s' => some (Zb, s')) (JO size (ρ a) (ρ x) s)) = zG ρ s (.st size a x) := by
 simp only [JO, zG]
 generalize ρ a = A
 cases A with
 | pointer p =>
  cases p with
  | none => rfl
  | some ad =>
   obtain ⟨k, o, sp⟩ := ad
   cases sp with
   | some z => rfl
   | none =>
    dsimp only
    split
    · cases s.write k o (ρ x).cells.toList <;> rfl
    · rfl
 | _ => rfl
theorem DA (o : DOp) (call : zN) (t : PT Value) (s : DS) : (xop o).go call t s = dop call (ev t) s o := by
 have val : ∀ (o : DOp) (z : Option Value), o.cls = .pure → z = zm (ev t) o → (Option.rec (motive := fun _ => Option (Value × DS)) none (fun v => some (v, s)) z) = dop call (ev t) s o := by
  intro o z hc hz
  subst hz
  unfold dop
  rw [hc]
  cases zm (ev t) o <;> rfl
 have rdv : ∀ (o : DOp) (z : Option Value), o.cls = .read → z = z9 (ev t) s o → (Option.rec (motive := fun _ => Option (Value × DS)) none (fun v => some (v, s)) z) = dop call (ev t) s o := by
  intro o z hc hz
  subst hz
  unfold dop
  rw [hc]
  cases z9 (ev t) s o <;> rfl
 cases o with
 | mv x => simp only [xop, ZY]; rfl
 | bin op x y => simp only [xop, ZY, SF]; exact val (.bin op x y) _ rfl rfl
 | eq neg e x y =>
  cases e with
  | one k =>
   cases k <;> simp only [xop, ZY]
   case int => exact val (.eq neg (.one .int) x y) _ rfl ((C7 neg _ _).trans (Vr _ neg .int x y))
   case ptr => exact val (.eq neg (.one .ptr) x y) _ rfl ((C6 neg _ _).trans (Vr _ neg .ptr x y))
   all_goals exact val (.eq neg (.one _) x y) _ rfl (Vr _ neg _ x y)
  | struct fs => rfl
  | arr n z e => rfl
 | un op x =>
  cases op <;> first
   | rfl
   | (simp only [xop, ZY]; exact val (.un .not x) _ rfl (Sg _ x))
 | pick c a b => simp only [xop, ZY]; exact val (.pick c a b) _ rfl (C3 _ c a b)
 | cvInt k x => simp only [xop, ZY]; exact val (.cvInt k x) _ rfl (DK _ k x)
 | nilck x => simp only [xop, ZY]; exact val (.nilck x) _ rfl (TE _ x)
 | alloc z => show some (Value.pointer (some ⟨s.next, 0, none⟩), KP s (.cells (.list z) false)) = _; rw [Qt]; rfl
 | box x => simp only [xop, ZY]; show some (Value.pointer (some ⟨s.next, 0, none⟩), KP s (.cells (.list (ev t x).cells.toList) false)) = _; rw [Qt]; rfl
 | build z parts => exact val (.build z parts) _ rfl (by simp only [Cm, Gr, G8, zm]; rfl)
 | ld agg a =>
  cases agg with
  | none => simp only [xop, ZY]; exact rdv (.ld none a) _ rfl (Nm _ s a)
  | some n => simp only [xop, ZY]; exact rdv (.ld (some n) a) _ rfl (by simp only [P5, QI, z9]; rfl)
 | st size a x =>
  by_cases h : size = 1
  · subst h
    simp only [xop, ZY]
    refine Eq.trans ?_ (GV (ev t) s 1 a x)
    rw [← RS]
    rfl
  · have : xop (.st size a x) = lt1 a fun f => lt1 x fun g => .eff fun t s => R0 size (f t) (g t) s := by
     unfold xop
     split <;> first | rfl | contradiction | (rename_i heq; cases heq; first | rfl | exact absurd rfl h) | skip
     all_goals simp_all
    rw [this]
    simp only [ZY, RZ]
    exact GV (ev t) s size a x
 | mkf f first captured => simp only [xop, SR]; rfl
 | slL size x lo hi mx => simp only [xop, ZY]; exact val (.slL size x lo hi mx) _ rfl (by simp only [P3, zm, Option.isSome_map, G8]; generalize ev t x = A; cases A <;> rfl)
 | slA n size x lo hi mx => simp only [xop, ZY]; exact val (.slA n size x lo hi mx) _ rfl (by simp only [P4, zm, G8]; rfl)
 | fadr off x => simp only [xop, ZY]; exact val (.fadr off x) _ rfl (C5 _ off x)
 | fld off agg x => simp only [xop, ZY]; exact val (.fld off agg x) _ rfl rfl
 | ixA n size x i => simp only [xop, ZY]; exact val (.ixA n size x i) _ rfl (Sl _ n size x i)
 | ixL size x i => simp only [xop, ZY]; exact val (.ixL size x i) _ rfl (Sj _ size x i)
 | idxA n size agg x i => simp only [xop, ZY]; exact val (.idxA n size agg x i) _ rfl rfl
 | idxS x i => simp only [xop, ZY]; exact val (.idxS x i) _ rfl rfl
 | ext x i => simp only [xop, ZY]; exact val (.ext x i) _ rfl (Sn _ x i)
 | blenL x => simp only [xop, ZY]; exact val (.blenL x) _ rfl (C4 _ x)
 | blenS x => simp only [xop, ZY]; exact val (.blenS x) _ rfl rfl
 | cvToStr x => simp only [xop, ZY]; exact rdv (.cvToStr x) _ rfl (by simp only [Cl, z9, QI]; rfl)
 | bslice n size z parts => show Vt n size z parts (evX t) s = Zw (ev t) s (.bslice n size z parts); simp only [Vt, Zw, Gr, G8, Qt]; rfl
 | mkslice bytes z l c => simp only [xop, ZY]; show Kh bytes z (ev t l) (ev t c) s = Zw (ev t) s (.mkslice bytes z l c); simp only [Kh, Zw, Qt]; rfl
 | bapp bytes size x y => simp only [xop, ZY]; show DL bytes size (ev t x) (ev t y) s = zG (ev t) s (.bapp bytes size x y); simp only [DL, zG, Qt, Ce, QI, Kc, KC, Fo, K9, Wo, CN]; rfl
 | bcopy size x y => simp only [xop, ZY]; show GX size (ev t x) (ev t y) s = zG (ev t) s (.bcopy size x y); simp only [GX, zG, Qt, Ce, QI, Kc, K9, Wo]; rfl
 | call f args => simp only [xop, ZY, SR]; rfl
 | _ => rfl
end
end Go.Dx
