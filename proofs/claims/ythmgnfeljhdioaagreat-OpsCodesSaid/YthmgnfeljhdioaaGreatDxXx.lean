/- A part. -/
import Derived.Test.YthmgnfeljhdioaaGreatDxIns
set_option linter.unusedVariables false
set_option linter.unusedSimpArgs false
set_option linter.unusedSectionVars false
namespace Go.Dx
open Go
noncomputable section
inductive S8 (α : Type) where
 | mk (f : V8 α → α)
inductive U8 (α : Type) where
 | mk (f : (α → α) → V8 α → V8 α)
def Jx {α : Type} (i : Nat) : S8 α :=
 match i with
 | 0 => .mk (V8.rec fun a _ _ _ _ _ _ _ => a)
 | 1 => .mk (V8.rec fun _ a _ _ _ _ _ _ => a)
 | 2 => .mk (V8.rec fun _ _ a _ _ _ _ _ => a)
 | 3 => .mk (V8.rec fun _ _ _ a _ _ _ _ => a)
 | 4 => .mk (V8.rec fun _ _ _ _ a _ _ _ => a)
 | 5 => .mk (V8.rec fun _ _ _ _ _ a _ _ => a)
 | 6 => .mk (V8.rec fun _ _ _ _ _ _ a _ => a)
 | _ => .mk (V8.rec fun _ _ _ _ _ _ _ a => a)
def Jw {α : Type} (i : Nat) : U8 α :=
 match i with
 | 0 => .mk (fun g => V8.rec fun a b c d e f h k => .mk (g a) b c d e f h k)
 | 1 => .mk (fun g => V8.rec fun a b c d e f h k => .mk a (g b) c d e f h k)
 | 2 => .mk (fun g => V8.rec fun a b c d e f h k => .mk a b (g c) d e f h k)
 | 3 => .mk (fun g => V8.rec fun a b c d e f h k => .mk a b c (g d) e f h k)
 | 4 => .mk (fun g => V8.rec fun a b c d e f h k => .mk a b c d (g e) f h k)
 | 5 => .mk (fun g => V8.rec fun a b c d e f h k => .mk a b c d e (g f) h k)
 | 6 => .mk (fun g => V8.rec fun a b c d e f h k => .mk a b c d e f (g h) k)
 | _ => .mk (fun g => V8.rec fun a b c d e f h k => .mk a b c d e f h (g k))
theorem Ff {α : Type} (i : Nat) : (Jx i : S8 α) = .mk (V8.get i) := by
 unfold Jx
 split <;> (refine congrArg S8.mk (funext fun v => ?_); cases v; unfold V8.get; first | rfl | (split <;> first | rfl | contradiction | (rename_i hq _ _ _ _ _ _ _; cases hq; rfl)))
theorem Fe {α : Type} (i : Nat) : (Jw i : U8 α) = .mk (V8.upd i) := by
 unfold Jw
 split <;> (refine congrArg U8.mk (funext fun g => funext fun v => ?_); cases v; unfold V8.upd; first | rfl | (split <;> first | rfl | contradiction | (rename_i hq _ _ _ _ _ _ _; cases hq; rfl)))
inductive Rdx (α : Type) where
 | mk (f : PT α → Option α)
inductive Wr (α : Type) where
 | mk (f : Option α → PT α → PT α)
def rdx {α : Type} (k : Nat) : Rdx α :=
 _root_.cond (Nat.blt k 64)
  (S8.rec (fun f => S8.rec (fun g => Rdx.mk (PT.rec fun lo _ _ _ => g (f lo))) (Jx (Nat.mod k 8))) (Jx (Nat.div k 8)))
  (_root_.cond (Nat.blt k 4160)
   (S8.rec (fun f => S8.rec (fun g => S8.rec (fun h => S8.rec (fun i => Rdx.mk (PT.rec fun _ mid _ _ => i (h (g (f mid))))) (Jx (Nat.mod (Nat.sub k 64) 8)))
    (Jx (Nat.mod (Nat.div (Nat.sub k 64) 8) 8))) (Jx (Nat.mod (Nat.div (Nat.sub k 64) 64) 8))) (Jx (Nat.div (Nat.sub k 64) 512)))
   (Rdx.mk fun t => t.get k))
def wrs {α : Type} (k : Nat) : Wr α :=
 _root_.cond (Nat.blt k 64)
  (U8.rec (fun f => U8.rec (fun g => Wr.mk (fun x => PT.rec fun lo mid far big => .mk (f (g fun _ => x) lo) mid far big)) (Jw (Nat.mod k 8))) (Jw (Nat.div k 8)))
  (_root_.cond (Nat.blt k 4160)
   (U8.rec (fun f => U8.rec (fun g => U8.rec (fun h => U8.rec (fun i => Wr.mk (fun x => PT.rec fun lo mid far big => .mk lo (f (g (h (i fun _ => x))) mid) far big)) (Jw (Nat.mod (Nat.sub k 64) 8)))
    (Jw (Nat.mod (Nat.div (Nat.sub k 64) 8) 8))) (Jw (Nat.mod (Nat.div (Nat.sub k 64) 64) 8))) (Jw (Nat.div (Nat.sub k 64) 512)))
   (Wr.mk fun x t => t.put k x))
theorem ZB {a b : Nat} (h : a < b) : Nat.blt a b = true := (zX a b).2 h
theorem Yt {a b : Nat} (h : ¬ a < b) : Nat.blt a b = false := by
 cases hb : Nat.blt a b with
 | false => rfl
 | true => exact absurd ((zX a b).1 hb) h
theorem Kq {α : Type} (k : Nat) : (rdx k : Rdx α) = .mk fun t => t.get k := by
 unfold rdx
 by_cases h1 : k < 64
 · rw [ZB h1]
   simp only [cond_true, Ff]
   refine congrArg Rdx.mk (funext fun t => ?_)
   cases t
   simp only [PT.get, h1, if_true]
   rfl
 · rw [Yt h1]
   by_cases h2 : k < 4160
   · rw [ZB h2]
     simp only [cond_true, cond_false, Ff]
     refine congrArg Rdx.mk (funext fun t => ?_)
     cases t
     simp only [PT.get, h1, h2, if_true, if_false]
     rfl
   · rw [Yt h2]
     rfl
theorem Jc {α : Type} (k : Nat) : (wrs k : Wr α) = .mk fun x t => t.put k x := by
 unfold wrs
 by_cases h1 : k < 64
 · rw [ZB h1]
   simp only [cond_true, Fe]
   refine congrArg Wr.mk (funext fun x => funext fun t => ?_)
   cases t
   simp only [PT.put, h1, if_true]
   rfl
 · rw [Yt h1]
   by_cases h2 : k < 4160
   · rw [ZB h2]
     simp only [cond_true, cond_false, Fe]
     refine congrArg Wr.mk (funext fun x => funext fun t => ?_)
     cases t
     simp only [PT.put, h1, h2, if_true, if_false]
     rfl
   · rw [Yt h2]
     rfl
inductive IV where
 | no
 | mk (k : IntKind) (n : Int)
inductive BV where
 | no
 | mk (b : Bool)
inductive PV where
 | no
 | mk (k off : Nat)
inductive AV where
 | no
 | mk (a : Option Addr)
inductive LV where
 | no
 | mk (a : Option Addr) (n c : Nat)
inductive FV where
 | no
 | mk (fn : Fn) (first captured : Array Value)
inductive TV where
 | no
 | mk (vs : List Value)
def asB : Value → BV := Value.rec (motive_1 := fun _ => BV) (motive_2 := fun _ => PUnit) (motive_3 := fun _ => PUnit) BV.mk (fun _ _ => .no) (fun _ _ => .no) (fun _ _ _ => .no) (fun _ => .no) (fun _ => .no) (fun _ _ _ => .no) (fun _ => .no) (fun _ => .no) (fun _ _ _ _ _ => .no) .no (fun _ _ _ => .no) .no (fun _ _ => .no) (fun _ _ => .no) (fun _ _ => ⟨⟩) ⟨⟩ (fun _ _ _ _ => ⟨⟩)
def asI : Value → IV := Value.rec (motive_1 := fun _ => IV) (motive_2 := fun _ => PUnit) (motive_3 := fun _ => PUnit) (fun _ => .no) IV.mk (fun _ _ => .no) (fun _ _ _ => .no) (fun _ => .no) (fun _ => .no) (fun _ _ _ => .no) (fun _ => .no) (fun _ => .no) (fun _ _ _ _ _ => .no) .no (fun _ _ _ => .no) .no (fun _ _ => .no) (fun _ _ => .no) (fun _ _ => ⟨⟩) ⟨⟩ (fun _ _ _ _ => ⟨⟩)
def asP : Value → PV := Value.rec (motive_1 := fun _ => PV) (motive_2 := fun _ => PUnit) (motive_3 := fun _ => PUnit) (fun _ => .no) (fun _ _ => .no) (fun _ _ => .no) (fun _ _ _ => .no) (fun _ => .no) (Option.rec .no (Addr.rec fun k off sp => Option.rec (PV.mk k off) (fun _ => .no) sp)) (fun _ _ _ => .no) (fun _ => .no) (fun _ => .no) (fun _ _ _ _ _ => .no) .no (fun _ _ _ => .no) .no (fun _ _ => .no) (fun _ _ => .no) (fun _ _ => ⟨⟩) ⟨⟩ (fun _ _ _ _ => ⟨⟩)
def asA : Value → AV := Value.rec (motive_1 := fun _ => AV) (motive_2 := fun _ => PUnit) (motive_3 := fun _ => PUnit) (fun _ => .no) (fun _ _ => .no) (fun _ _ => .no) (fun _ _ _ => .no) (fun _ => .no) AV.mk (fun _ _ _ => .no) (fun _ => .no) (fun _ => .no) (fun _ _ _ _ _ => .no) .no (fun _ _ _ => .no) .no (fun _ _ => .no) (fun _ _ => .no) (fun _ _ => ⟨⟩) ⟨⟩ (fun _ _ _ _ => ⟨⟩)
def asL : Value → LV := Value.rec (motive_1 := fun _ => LV) (motive_2 := fun _ => PUnit) (motive_3 := fun _ => PUnit) (fun _ => .no) (fun _ _ => .no) (fun _ _ => .no) (fun _ _ _ => .no) (fun _ => .no) (fun _ => .no) LV.mk (fun _ => .no) (fun _ => .no) (fun _ _ _ _ _ => .no) .no (fun _ _ _ => .no) .no (fun _ _ => .no) (fun _ _ => .no) (fun _ _ => ⟨⟩) ⟨⟩ (fun _ _ _ _ => ⟨⟩)
def asF : Value → FV := Value.rec (motive_1 := fun _ => FV) (motive_2 := fun _ => PUnit) (motive_3 := fun _ => PUnit) (fun _ => .no) (fun _ _ => .no) (fun _ _ => .no) (fun _ _ _ => .no) (fun _ => .no) (fun _ => .no) (fun _ _ _ => .no) (fun _ => .no) (fun _ => .no) (fun g a b _ _ => FV.mk g a b) .no (fun _ _ _ => .no) .no (fun _ _ => .no) (fun _ _ => .no) (fun _ _ => ⟨⟩) ⟨⟩ (fun _ _ _ _ => ⟨⟩)
def asT : Value → TV := Value.rec (motive_1 := fun _ => TV) (motive_2 := fun _ => PUnit) (motive_3 := fun _ => PUnit) (fun _ => .no) (fun _ _ => .no) (fun _ _ => .no) (fun _ _ _ => .no) (fun _ => .no) (fun _ => .no) (fun _ _ _ => .no) (fun _ => .no) (fun _ => .no) (fun _ _ _ _ _ => .no) .no (fun _ _ _ => .no) .no (fun _ _ => .no) (fun vs _ => TV.mk vs.toList) (fun _ _ => ⟨⟩) ⟨⟩ (fun _ _ _ _ => ⟨⟩)
theorem Q7 {β : Type} (z : β) (f : Nat → Nat → β) (v : Value) : PV.rec (motive := fun _ => β) z f (asP v) = (match v with | .pointer (some ⟨k, off, none⟩) => f k off | _ => z) := by
 cases v with
 | pointer a =>
  cases a with
  | none => rfl
  | some a =>
   obtain ⟨k, off, sp⟩ := a
   cases sp <;> rfl
 | _ => rfl
theorem Ww {β : Type} (z : β) (f : IntKind → Int → β) (v : Value) : IV.rec (motive := fun _ => β) z f (asI v) = (match v with | .int k n => f k n | _ => z) := by cases v <;> rfl
theorem J7 {β : Type} (z : β) (f : Bool → β) (v : Value) : BV.rec (motive := fun _ => β) z f (asB v) = (match v with | .bool b => f b | _ => z) := by cases v <;> rfl
theorem Tm {β : Type} (z : β) (f : Option Addr → Nat → Nat → β) (v : Value) : LV.rec (motive := fun _ => β) z f (asL v) = (match v with | .slice a b c => f a b c | _ => z) := by cases v <;> rfl
theorem NO {β : Type} (z : β) (f : Fn → Array Value → Array Value → β) (v : Value) : FV.rec (motive := fun _ => β) z f (asF v) = (match v with | .func g a b => f g a b | _ => z) := by cases v <;> rfl
theorem NN {β : Type} (z : β) (f : List Value → β) (v : Value) : TV.rec (motive := fun _ => β) z f (asT v) = (match v with | .tuple vs => f vs.toList | _ => z) := by cases v <;> rfl
theorem Wu {α : Type} (c : Bool) (a b : α) : Bool.rec (motive := fun _ => α) b a c = if c = true then a else b := by cases c <;> rfl
def kcd : IntKind → Nat := IntKind.rec (motive := fun _ => Nat) 0 1 2 3 4 5 6 7
def Lk (a b : IntKind) : Bool := Nat.beq (kcd a) (kcd b)
theorem SI (a b : IntKind) : Lk a b = decide (a = b) := by cases a <;> cases b <;> rfl
def Fm : IntKind → Nat := IntKind.rec (motive := fun _ => Nat) 256 65536 4294967296 18446744073709551616 256 65536 4294967296 18446744073709551616
def RC : IntKind → Nat := IntKind.rec (motive := fun _ => Nat) 128 32768 2147483648 9223372036854775808 256 65536 4294967296 18446744073709551616
theorem Nh (k : IntKind) : Fm k = zF k := by cases k <;> rfl
def JV (k : IntKind) (m : Nat) : Int := Bool.rec (motive := fun _ => Int) (zt k (Int.ofNat m)) (Int.ofNat m) (Nat.ble (Nat.succ m) (RC k))
theorem Xz (k : IntKind) (m : Nat) : JV k m = zt k (.ofNat m) := by
 show Bool.rec (motive := fun _ => Int) (zt k (Int.ofNat m)) (Int.ofNat m) (Nat.blt m (RC k)) = _
 by_cases h : m < RC k
 · rw [ZB h]
   show Int.ofNat m = _
   have hl : low k (.ofNat m) = m := by
    cases k <;> simp only [RC] at h <;> exact Nat.mod_eq_of_lt (by simp only [zF]; omega)
   have hb : Xm k = true → Nat.ble (Qz k) m = false := by
    intro hs
    cases k <;> simp only [RC] at h <;> first | (cases hs; done) | exact (by rw [Bool.eq_false_iff]; intro hb; have := Nat.le_of_ble_eq_true hb; simp only [Qz] at this; omega)
   unfold zt
   simp only [hl]
   cases hs : Xm k with
   | false => rfl
   | true => rw [hb hs]; rfl
 · rw [Yt h]
inductive Bf where
 | mk (f : Value → Value → Option Value)
def two (op : BinOp) (F : IntKind → Int → Int → Option Value) : Bf :=
 .mk fun x y => IV.rec (motive := fun _ => Option Value) (zo op x y) (fun k a => IV.rec (motive := fun _ => Option Value) none (fun k' b => Bool.rec (motive := fun _ => Option Value) none (F k a b) (Nat.beq (kcd k) (kcd k'))) (asI y)) (asI x)
def LD (k : IntKind) (a b : Int) : Option Value := Int.rec (motive := fun _ => Option Value) (fun m => Int.rec (motive := fun _ => Option Value) (fun n => some (.int k (JV k (Nat.add m n)))) (fun _ => zm .add k a b) b) (fun _ => zm .add k a b) a
def MV (k : IntKind) (a b : Int) : Option Value := Int.rec (motive := fun _ => Option Value) (fun m => Int.rec (motive := fun _ => Option Value) (fun n => Bool.rec (motive := fun _ => Option Value) (zm .sub k a b) (some (.int k (JV k (Nat.sub m n)))) (Nat.ble n m)) (fun _ => zm .sub k a b) b) (fun _ => zm .sub k a b) a
def Lx (k : IntKind) (a b : Int) : Option Value := Int.rec (motive := fun _ => Option Value) (fun m => Int.rec (motive := fun _ => Option Value) (fun n => some (.int k (JV k (Nat.mul m n)))) (fun _ => zm .mul k a b) b) (fun _ => zm .mul k a b) a
def LC (k : IntKind) (a b : Int) : Option Value := Int.rec (motive := fun _ => Option Value) (fun m => Int.rec (motive := fun _ => Option Value) (fun n => some (.int k (JV k (Nat.land (Nat.mod m (Fm k)) (Nat.mod n (Fm k)))))) (fun _ => zm .and k a b) b) (fun _ => zm .and k a b) a
def fOr (k : IntKind) (a b : Int) : Option Value := Int.rec (motive := fun _ => Option Value) (fun m => Int.rec (motive := fun _ => Option Value) (fun n => some (.int k (JV k (Nat.lor (Nat.mod m (Fm k)) (Nat.mod n (Fm k)))))) (fun _ => zm .or k a b) b) (fun _ => zm .or k a b) a
def Lu (k : IntKind) (a b : Int) : Option Value := Int.rec (motive := fun _ => Option Value) (fun m => Int.rec (motive := fun _ => Option Value) (fun n => some (.int k (JV k (Nat.xor (Nat.mod m (Fm k)) (Nat.mod n (Fm k)))))) (fun _ => zm .xor k a b) b) (fun _ => zm .xor k a b) a
def MY (k : IntKind) (a b : Int) : Option Value := Int.rec (motive := fun _ => Option Value) (fun m => Int.rec (motive := fun _ => Option Value) (fun n => some (.bool (Nat.beq m n))) (fun _ => zm .eql k a b) b) (fun _ => zm .eql k a b) a
def MX (k : IntKind) (a b : Int) : Option Value := Int.rec (motive := fun _ => Option Value) (fun m => Int.rec (motive := fun _ => Option Value) (fun n => some (.bool (Bool.rec (motive := fun _ => Bool) true false (Nat.beq m n)))) (fun _ => zm .neq k a b) b) (fun _ => zm .neq k a b) a
def Ly (k : IntKind) (a b : Int) : Option Value := Int.rec (motive := fun _ => Option Value) (fun m => Int.rec (motive := fun _ => Option Value) (fun n => some (.bool (Nat.ble (Nat.succ m) n))) (fun _ => zm .lss k a b) b) (fun _ => zm .lss k a b) a
def Lz (k : IntKind) (a b : Int) : Option Value := Int.rec (motive := fun _ => Option Value) (fun m => Int.rec (motive := fun _ => Option Value) (fun n => some (.bool (Nat.ble m n))) (fun _ => zm .leq k a b) b) (fun _ => zm .leq k a b) a
def LA (k : IntKind) (a b : Int) : Option Value := Int.rec (motive := fun _ => Option Value) (fun m => Int.rec (motive := fun _ => Option Value) (fun n => some (.bool (Nat.ble (Nat.succ n) m))) (fun _ => zm .gtr k a b) b) (fun _ => zm .gtr k a b) a
def LB (k : IntKind) (a b : Int) : Option Value := Int.rec (motive := fun _ => Option Value) (fun m => Int.rec (motive := fun _ => Option Value) (fun n => some (.bool (Nat.ble n m))) (fun _ => zm .geq k a b) b) (fun _ => zm .geq k a b) a
def Po : IntKind → Nat := IntKind.rec (motive := fun _ => Nat) 8 16 32 64 8 16 32 64
theorem Pn (k : IntKind) : Po k = bitsOf k := by cases k <;> rfl
def Ni (k : IntKind) (n : Nat) : Nat := Bool.rec (motive := fun _ => Nat) n (Po k) (Nat.ble (Po k) n)
def Lw (k : IntKind) (a b : Int) : Option Value := Int.rec (motive := fun _ => Option Value) (fun m => Int.rec (motive := fun _ => Option Value) (fun n => some (.int k (JV k (Nat.mul m (Nat.pow 2 (Ni k n)))))) (fun _ => Zr .shl k a b) b) (fun _ => Zr .shl k a b) a
def Lv (k : IntKind) (a b : Int) : Option Value := Int.rec (motive := fun _ => Option Value) (fun m => Int.rec (motive := fun _ => Option Value) (fun n => some (.int k (Int.ofNat (Nat.div m (Nat.pow 2 (Ni k n)))))) (fun _ => Zr .shr k a b) b) (fun _ => Zr .shr k a b) a
def shf (op : BinOp) (F : IntKind → Int → Int → Option Value) : Bf :=
 .mk fun x y => IV.rec (motive := fun _ => Option Value) (zo op x y) (fun k a => IV.rec (motive := fun _ => Option Value) (zo op x y) (fun _ b => F k a b) (asI y)) (asI x)
def N7 (op : BinOp) : Bf :=
 match op with
 | .add => two .add LD
 | .sub => two .sub MV
 | .mul => two .mul Lx
 | .and => two .and LC
 | .or => two .or fOr
 | .xor => two .xor Lu
 | .eql => two .eql MY
 | .neq => two .neq MX
 | .lss => two .lss Ly
 | .leq => two .leq Lz
 | .gtr => two .gtr LA
 | .geq => two .geq LB
 | .shl => shf .shl Lw
 | .shr => shf .shr Lv
 | op => .mk (zo op)
theorem WW (k : IntKind) (a b : Int) (op : BinOp) (g : Nat → Nat → Option Value) (h : ∀ m n, g m n = zm op k (.ofNat m) (.ofNat n)) :
 Int.rec (motive := fun _ => Option Value) (fun m => Int.rec (motive := fun _ => Option Value) (fun n => g m n) (fun _ => zm op k a b) b) (fun _ => zm op k a b) a = zm op k a b := by
 cases a with
 | ofNat m => cases b with
  | ofNat n => exact h m n
  | negSucc n => rfl
 | negSucc m => rfl
theorem Mb (k : IntKind) (a b : Int) (op : BinOp) (g : Nat → Nat → Option Value) (h : ∀ m n, g m n = Zr op k (.ofNat m) (.ofNat n)) :
 Int.rec (motive := fun _ => Option Value) (fun m => Int.rec (motive := fun _ => Option Value) (fun n => g m n) (fun _ => Zr op k a b) b) (fun _ => Zr op k a b) a = Zr op k a b := by
 cases a with
 | ofNat m => cases b with
  | ofNat n => exact h m n
  | negSucc n => rfl
 | negSucc m => rfl
theorem Vq (a b : IntKind) : Nat.beq (kcd a) (kcd b) = decide (a = b) := SI a b
theorem YW {op : BinOp} {F : IntKind → Int → Int → Option Value} (h1 : op ≠ .shl) (h2 : op ≠ .shr) (h : ∀ k a b, F k a b = zm op k a b) : two op F = .mk (zo op) := by
 refine congrArg Bf.mk (funext fun x => funext fun y => ?_)
 rw [Ww]
 cases x with
 | int k a =>
  simp only [Ww]
  cases y with
  | int k' b =>
   simp only [h, Vq, Wu]
   have : zo op (.int k a) (.int k' b) = if k = k' then zm op k a b else none := by
    cases op <;> first | rfl | exact absurd rfl h1 | exact absurd rfl h2
   rw [this]
   by_cases e : k = k' <;> simp [e]
  | _ => rfl
 | _ => rfl
theorem SG {op : BinOp} {F : IntKind → Int → Int → Option Value} (h : ∀ k k' a b, F k a b = zo op (.int k a) (.int k' b)) : shf op F = .mk (zo op) := by
 refine congrArg Bf.mk (funext fun x => funext fun y => ?_)
 rw [Ww]
 cases x with
 | int k a =>
  simp only [Ww]
  cases y with
  | int k' b => exact h k k' a b
  | _ => rfl
 | _ => rfl
theorem CT (k : IntKind) (n : Nat) : Ni k n = if Nat.ble (bitsOf k) n then bitsOf k else n := by
 unfold Ni
 rw [Pn, Wu]
theorem Vw (n : Nat) : ¬ (Int.ofNat n < 0) := by simp only [Int.ofNat_eq_natCast]; omega
theorem NG (k : IntKind) (a b : Int) : LD k a b = zm .add k a b := WW k a b .add _ fun m n => by rw [Xz]; rfl
theorem Nx (k : IntKind) (a b : Int) : MV k a b = zm .sub k a b := by
 unfold MV
 cases a with
 | ofNat m => cases b with
  | ofNat n =>
   show Bool.rec (motive := fun _ => Option Value) (zm .sub k (.ofNat m) (.ofNat n)) (some (.int k (JV k (Nat.sub m n)))) (Nat.ble n m) = _
   cases h : Nat.ble n m with
   | false => rfl
   | true =>
    have hle := Nat.le_of_ble_eq_true h
    have e : (Int.ofNat m - Int.ofNat n) = Int.ofNat (m - n) := by simp only [Int.ofNat_eq_natCast]; omega
    show some (Value.int k (JV k (m - n))) = some (.int k (zt k (Int.ofNat m - Int.ofNat n)))
    rw [Xz, e]
  | negSucc n => rfl
 | negSucc m => rfl
theorem NA (k : IntKind) (a b : Int) : Lx k a b = zm .mul k a b := WW k a b .mul _ fun m n => by rw [Xz]; rfl
theorem Qb (k : IntKind) (m : Nat) : low k (.ofNat m) = Nat.mod m (Fm k) := by rw [Nh]; rfl
theorem NF (k : IntKind) (a b : Int) : LC k a b = zm .and k a b := WW k a b .and _ fun m n => by rw [Xz, ← Qb, ← Qb]; rfl
theorem MW (k : IntKind) (a b : Int) : fOr k a b = zm .or k a b := WW k a b .or _ fun m n => by rw [Xz, ← Qb, ← Qb]; rfl
theorem Nw (k : IntKind) (a b : Int) : Lu k a b = zm .xor k a b := WW k a b .xor _ fun m n => by rw [Xz, ← Qb, ← Qb]; rfl
theorem Tl (m n : Nat) : Nat.beq m n = decide (Int.ofNat m = Int.ofNat n) := by
 rw [Bool.eq_iff_iff, decide_eq_true_iff]
 constructor
 · intro h; rw [Nat.eq_of_beq_eq_true h]
 · intro h; cases h; exact Nat.beq_refl _
theorem C9 (k : IntKind) (a b : Int) : MY k a b = zm .eql k a b := WW k a b .eql _ fun m n => by rw [Tl]; rfl
theorem C8 (k : IntKind) (a b : Int) : MX k a b = zm .neq k a b := WW k a b .neq _ fun m n => by
 rw [Tl]
 show some (Value.bool (Bool.rec (motive := fun _ => Bool) true false (decide (Int.ofNat m = Int.ofNat n)))) = some (.bool (!decide (Int.ofNat m = Int.ofNat n)))
 cases decide (Int.ofNat m = Int.ofNat n) <;> rfl
theorem Tj (m n : Nat) : Nat.blt m n = decide (Int.ofNat m < Int.ofNat n) := by
 rw [Bool.eq_iff_iff, decide_eq_true_iff, zX]; simp only [Int.ofNat_eq_natCast]; omega
theorem Tk (m n : Nat) : Nat.ble m n = decide (Int.ofNat m ≤ Int.ofNat n) := by
 rw [Bool.eq_iff_iff, decide_eq_true_iff, Nat.ble_eq]; simp only [Int.ofNat_eq_natCast]; omega
theorem NB (k : IntKind) (a b : Int) : Ly k a b = zm .lss k a b := WW k a b .lss _ fun m n => by
 show some (Value.bool (Nat.blt m n)) = _
 rw [Tj]; rfl
theorem NC (k : IntKind) (a b : Int) : Lz k a b = zm .leq k a b := WW k a b .leq _ fun m n => by rw [Tk]; rfl
theorem ND (k : IntKind) (a b : Int) : LA k a b = zm .gtr k a b := WW k a b .gtr _ fun m n => by
 show some (Value.bool (Nat.blt n m)) = _
 rw [Tj]; rfl
theorem NE (k : IntKind) (a b : Int) : LB k a b = zm .geq k a b := WW k a b .geq _ fun m n => by rw [Tk]; rfl
theorem Nz (k k' : IntKind) (a b : Int) : Lw k a b = zo .shl (.int k a) (.int k' b) := Mb k a b .shl _ fun m n => by
 rw [Xz, CT]
 simp only [Zr, Vw, if_false]
 rfl
theorem FP (m p : Nat) : Int.fdiv (.ofNat m) (.ofNat p) = .ofNat (m / p) := by
 cases m with
 | zero => simp [Int.fdiv]
 | succ m => rfl
theorem Ny (k k' : IntKind) (a b : Int) : Lv k a b = zo .shr (.int k a) (.int k' b) := Mb k a b .shr _ fun m n => by
 rw [CT]
 simp only [Zr, Vw, if_false]
 exact congrArg (fun z => some (Value.int k z)) (FP _ _).symm
theorem Ru (op : BinOp) : N7 op = .mk (zo op) := by
 cases op <;> first
  | rfl
  | exact YW (by simp) (by simp) NG
  | exact YW (by simp) (by simp) Nx
  | exact YW (by simp) (by simp) NA
  | exact YW (by simp) (by simp) NF
  | exact YW (by simp) (by simp) MW
  | exact YW (by simp) (by simp) Nw
  | exact YW (by simp) (by simp) C9
  | exact YW (by simp) (by simp) C8
  | exact YW (by simp) (by simp) NB
  | exact YW (by simp) (by simp) NC
  | exact YW (by simp) (by simp) ND
  | exact YW (by simp) (by simp) NE
  | exact SG Nz
  | exact SG Ny
inductive Rd where
 | mk (f : PT Value → Value)
def orU (o : Option Value) : Value := Option.rec zv (fun v => v) o
def rd (x : Operand) : Rd := Operand.rec (motive := fun _ => Rd) (fun i => Rdx.rec (fun f => Rd.mk fun t => orU (f t)) (rdx i)) (fun v => Rd.mk fun _ => v) (fun _ => Rd.mk fun _ => zv) (fun f => Rd.mk fun _ => .func (.func f) #[] #[]) x
theorem CJ (x : Operand) : rd x = .mk fun t => ev t x := by
 cases x with
 | tmp i =>
  show Rdx.rec (motive := fun _ => Rd) (fun f => Rd.mk fun t => orU (f t)) (rdx i) = _
  rw [Kq]
  refine congrArg Rd.mk (funext fun t => ?_)
  show orU (t.get i) = (t.get i).getD zv
  cases t.get i <;> rfl
 | const v => rfl
 | global g => rfl
 | func f => rfl
inductive La where
 | mk (f : PT Value → List Value)
def la (xs : List Operand) : La := List.rec (motive := fun _ => La) (La.mk fun _ => []) (fun x _ ih => Rd.rec (fun f => La.rec (fun g => La.mk fun t => f t :: g t) ih) (rd x)) xs
theorem RE : ∀ xs : List Operand, la xs = .mk fun t => xs.map (ev t)
 | [] => rfl
 | x :: xs => by
  show Rd.rec (motive := fun _ => La) (fun f => La.rec (motive := fun _ => La) (fun g => La.mk fun t => f t :: g t) (la xs)) (rd x) = _
  rw [CJ, RE xs]
  rfl
def KM {β : Type} (f : Nat → β) (n : Nat) : β := Nat.rec (motive := fun _ => β) (f 0) (fun m _ => f (Nat.succ m)) n
theorem Qg {β : Type} (f : Nat → β) (n : Nat) : KM f n = f n := by cases n <;> rfl
def hp (s : DS) (k : Nat) : Option DObj := DS.rec (motive := fun _ => Option DObj) (fun h n v w => Bool.rec (motive := fun _ => Option DObj) none (Bool.rec (motive := fun _ => Option DObj) none (Rdx.rec (motive := fun _ => Option DObj) (fun f => f h) (rdx k)) (v k)) (Nat.ble (Nat.succ k) n)) s
theorem KF (s : DS) (k : Nat) : hp s k = s.get k := by
 unfold hp DS.get
 rw [Kq]
 show Bool.rec (motive := fun _ => Option DObj) none (Bool.rec (motive := fun _ => Option DObj) none (s.heap.get k) (s.vis k)) (Nat.blt k s.next) = _
 cases Nat.blt k s.next <;> cases s.vis k <;> rfl
inductive Nt where
 | mk (f : List Value → Option Value)
def nth (i : Nat) : Nt := Nat.rec (motive := fun _ => Nt) (Nt.mk (List.rec none fun x _ _ => some x)) (fun _ ih => Nt.rec (fun f => Nt.mk (List.rec none fun _ l _ => f l)) ih) i
theorem Gd : ∀ i : Nat, nth i = .mk fun l => getN l i
 | 0 => congrArg Nt.mk (funext fun l => by cases l <;> rfl)
 | i + 1 => by
  show Nt.rec (motive := fun _ => Nt) (fun f => Nt.mk (List.rec none fun _ l _ => f l)) (nth i) = _
  rw [Gd i]
  exact congrArg Nt.mk (funext fun l => by cases l <;> rfl)
inductive Ns where
 | mk (f : Value → List Value → List Value)
def DP (i : Nat) : Ns := Nat.rec (motive := fun _ => Ns) (Ns.mk fun v => List.rec [] fun _ l _ => v :: l) (fun _ ih => Ns.rec (fun f => Ns.mk fun v => List.rec [] fun x l _ => x :: f v l) ih) i
theorem Ge : ∀ i : Nat, DP i = .mk fun v l => zA l i v
 | 0 => congrArg Ns.mk (funext fun v => funext fun l => by cases l <;> rfl)
 | i + 1 => by
  show Ns.rec (motive := fun _ => Ns) (fun f => Ns.mk fun v => List.rec [] fun x l _ => x :: f v l) (DP i) = _
  rw [Ge i]
  exact congrArg Ns.mk (funext fun v => funext fun l => by cases l <;> rfl)
def MF (c : Cells) (i : Nat) : Option Value :=
 Cells.rec (motive := fun _ => Option Value) (fun l => Nt.rec (motive := fun _ => Option Value) (fun f => f l) (nth i)) (fun n z t => Bool.rec (motive := fun _ => Option Value) none (some (Option.rec (motive := fun _ => Value) z (fun v => v) (Rdx.rec (motive := fun _ => Option Value) (fun f => f t) (rdx i)))) (Nat.ble (Nat.succ i) n)) (fun l => Nt.rec (motive := fun _ => Option Value) (fun f => f l) (nth i)) c
theorem Cy (c : Cells) (i : Nat) : MF c i = c.get i := by
 cases c with
 | list l => show Nt.rec (motive := fun _ => Option Value) (fun f => f l) (nth i) = _; rw [Gd]; rfl
 | str l => show Nt.rec (motive := fun _ => Option Value) (fun f => f l) (nth i) = _; rw [Gd]; rfl
 | tree n z t =>
  show Bool.rec (motive := fun _ => Option Value) none (some (Option.rec (motive := fun _ => Value) z (fun v => v) (Rdx.rec (motive := fun _ => Option Value) (fun f => f t) (rdx i)))) (Nat.blt i n) = if i < n then some ((t.get i).getD z) else none
  rw [Kq]
  by_cases h : i < n
  · rw [ZB h, if_pos h]
    show some (Option.rec (motive := fun _ => Value) z (fun v => v) (t.get i)) = _
    cases t.get i <;> rfl
  · rw [Yt h, if_neg h]
def M9 (c : Cells) (i : Nat) (v : Value) : Cells :=
 Cells.rec (motive := fun _ => Cells) (fun l => .list (Ns.rec (motive := fun _ => List Value) (fun f => f v l) (DP i))) (fun n z t => .tree n z (Bool.rec (motive := fun _ => PT Value) t (Wr.rec (motive := fun _ => PT Value) (fun w => w (some v) t) (wrs i)) (Nat.ble (Nat.succ i) n))) (fun l => .str (Ns.rec (motive := fun _ => List Value) (fun f => f v l) (DP i))) c
theorem PP (c : Cells) (i : Nat) (v : Value) : M9 c i v = c.set i v := by
 cases c with
 | list l => show Cells.list (Ns.rec (motive := fun _ => List Value) (fun f => f v l) (DP i)) = _; rw [Ge]; rfl
 | str l => show Cells.str (Ns.rec (motive := fun _ => List Value) (fun f => f v l) (DP i)) = _; rw [Ge]; rfl
 | tree n z t =>
  show Cells.tree n z (Bool.rec (motive := fun _ => PT Value) t (Wr.rec (motive := fun _ => PT Value) (fun w => w (some v) t) (wrs i)) (Nat.blt i n)) = .tree n z (if i < n then t.put i (some v) else t)
  rw [Jc]
  by_cases h : i < n
  · rw [ZB h, if_pos h]
  · rw [Yt h, if_neg h]
def JT (s : DS) (o : DObj) : DS := DS.rec (motive := fun _ => DS) (fun h n v w => KM (fun n => DS.mk (Wr.rec (motive := fun _ => PT DObj) (fun f => f (some o) h) (wrs n)) (Nat.succ n) v w) n) s
theorem Wf (s : DS) (o : DObj) : JT s o = s.new o := by
 unfold JT
 cases s
 simp only [Qg, Jc]
 rfl
inductive XOp where
 | tot (f : PT Value → Value)
 | val (f : PT Value → DS → Option Value)
 | eff (f : PT Value → DS → Option DS)
 | neu (f : PT Value → DObj)
 | act (f : zn → PT Value → DS → Option (Value × DS))
def XOp.go (o : XOp) (call : zn) (t : PT Value) (s : DS) : Option (Value × DS) :=
 XOp.rec (motive := fun _ => Option (Value × DS)) (fun f => some (f t, s)) (fun f => Option.rec none (fun v => some (v, s)) (f t s)) (fun f => Option.rec none (fun s' => some (zv, s')) (f t s))
  (fun f => some (.pointer (some ⟨s.next, 0, none⟩), JT s (f t))) (fun f => f call t s) o
def asN (v : Value) : Option Nat := IV.rec (motive := fun _ => Option Nat) none (fun _ a => Int.rec (motive := fun _ => Option Nat) (fun n => some n) (fun _ => none) a) (asI v)
theorem Pv (v : Value) : asN v = zU v := by
 unfold asN
 rw [Ww]
 cases v with
 | int k a => cases a <;> rfl
 | _ => rfl
def lt1 (x : Operand) (F : (PT Value → Value) → XOp) : XOp := Rd.rec F (rd x)
theorem z9 (x : Operand) (F : (PT Value → Value) → XOp) : lt1 x F = F fun t => ev t x := by unfold lt1; rw [CJ]
def K2 {β : Type} (z : β) (f : Cells → Bool → β) (o : Option DObj) : β := Option.rec z (DObj.rec f (fun _ _ => z) (fun _ _ _ _ => z) (fun _ _ _ _ _ _ => z) z) o
theorem Qi {β : Type} (z : β) (f : Cells → Bool → β) (o : Option DObj) : K2 z f o = (match o with | some (.cells c ro) => f c ro | _ => z) := by
 cases o with
 | none => rfl
 | some o => cases o <;> rfl
def xld (v : Value) (s : DS) : Option Value := PV.rec (motive := fun _ => Option Value) none (fun k off => K2 none (fun c _ => KM (fun off => MF c off) off) (hp s k)) (asP v)
theorem ME (ρ : Operand → Value) (s : DS) (a : Operand) : xld (ρ a) s = zk ρ s (.ld none a) := by
 simp only [xld, Q7, Qg, Qi, KF, Cy, zk]
 generalize ρ a = A
 cases A with
 | pointer p =>
  cases p with
  | none => rfl
  | some ad =>
   obtain ⟨k, off, sp⟩ := ad
   cases sp with
   | some z => rfl
   | none =>
    dsimp only
    cases s.get k with
    | none => rfl
    | some ob => cases ob <;> rfl
 | _ => rfl
def TX : Value → Bool :=
 Value.rec (motive_1 := fun _ => Bool) (motive_2 := fun _ => PUnit) (motive_3 := fun _ => PUnit) (fun _ => true) (fun _ _ => true) (fun _ _ => true) (fun _ _ _ => true) (fun _ => true) (fun _ => true) (fun _ _ _ => true) (fun _ => true) (fun _ => true)
  (fun _ _ _ _ _ => true) true (fun _ _ _ => true) true (fun _ _ => false) (fun _ _ => false) (fun _ _ => ⟨⟩) ⟨⟩ (fun _ _ _ _ => ⟨⟩)
def Je (size : Nat) (a v : Value) (s : DS) : Option DS :=
 match a with
 | .pointer (some ⟨k, off, none⟩) =>
  let cs := v.cells.toList
  if Nat.beq cs.length size && zh cs then s.write k off cs else none
 | _ => none
def So (s : DS) (k : Nat) (o : DObj) : Option DS := DS.rec (motive := fun _ => Option DS) (fun h n vis wr => Bool.rec (motive := fun _ => Option DS) none (some (DS.mk (Wr.rec (motive := fun _ => PT DObj) (fun f => f (some o) h) (wrs k)) n vis wr)) (wr k)) s
theorem VZ (s : DS) (k : Nat) (o : DObj) : So s k o = s.set k o := by
 unfold So DS.set
 rw [Jc]
 show Bool.rec (motive := fun _ => Option DS) none (some (DS.mk (s.heap.put k (some o)) s.next s.vis s.wr)) (s.wr k) = _
 cases s.wr k <;> rfl
def MC (a v : Value) (s : DS) : Option DS :=
 Bool.rec (motive := fun _ => Option DS) (Je 1 a v s)
  (PV.rec (motive := fun _ => Option DS) none (fun k off => K2 none (fun c ro => Bool.rec (motive := fun _ => Option DS) (KM (fun off => Option.rec (motive := fun _ => Option DS) none (fun _ => So s k (.cells (M9 c off v) false)) (MF c off)) off) none ro) (hp s k)) (asP a)) (TX v)
end
end Go.Dx
set_option linter.unusedVariables false
set_option linter.unusedSimpArgs false
set_option linter.unusedSectionVars false
namespace Go.Dx
open Go
noncomputable section
theorem DN {v : Value} (h : TX v = true) : v.cells.toList = [v] ∧ zg v = true := by
 cases v <;> first | exact ⟨rfl, rfl⟩ | cases h
theorem Kg : ∀ (l : List Value) (i : Nat), (getN l i).isSome = Nat.ble (i + 1) l.length
 | [], i => rfl
 | x :: l, 0 => rfl
 | x :: l, i + 1 => Kg l i
theorem Np (c : Cells) (i : Nat) : (c.get i).isSome = Nat.ble (i + 1) c.size := by
 cases c with
 | list l => exact Kg l i
 | str l => exact Kg l i
 | tree n z t =>
  show (if i < n then some ((t.get i).getD z) else none).isSome = Nat.blt i n
  by_cases h : i < n
  · rw [if_pos h, ZB h]; rfl
  · rw [if_neg h, Yt h]; rfl
theorem PN (a v : Value) (s : DS) : MC a v s = Je 1 a v s := by
 unfold MC
 cases h : TX v with
 | false => rfl
 | true =>
  show PV.rec (motive := fun _ => Option DS) none _ (asP a) = _
  rw [Q7]
  obtain ⟨h1, h2⟩ := DN h
  cases a with
  | pointer p =>
   cases p with
   | none => rfl
   | some ad =>
    obtain ⟨k, off, sp⟩ := ad
    cases sp with
    | some z => rfl
    | none =>
     have hc : (Nat.beq v.cells.toList.length 1 && zh v.cells.toList) = true := by
      rw [h1]; simp only [List.length_singleton, zh, h2]; rfl
     simp only [Je, hc, if_true, Qg, Qi, KF, Cy, PP, VZ]
     unfold DS.write
     rw [h1]
     cases s.get k with
     | none => rfl
     | some ob =>
      cases ob with
      | cells c ro =>
       cases ro with
       | true => rfl
       | false =>
        have hp := Np c off
        show Option.rec (motive := fun _ => Option DS) none (fun _ => s.set k (.cells (c.set off v) false)) (c.get off) = if Nat.ble (off + 1) c.size = true then s.set k (.cells (c.set off v) false) else none
        rw [← hp]
        cases c.get off <;> rfl
      | _ => rfl
  | _ => rfl
def JU (l : List Value) : Nat := List.rec (motive := fun _ => Nat) 0 (fun _ _ ih => Nat.succ ih) l
theorem Y6 : ∀ l : List Value, JU l = l.length
 | [] => rfl
 | _ :: l => congrArg Nat.succ (Y6 l)
def Ct (l : List Value) : Bool := List.rec (motive := fun _ => Bool) true (fun v _ ih => Bool.rec (motive := fun _ => Bool) false ih (TX v)) l
theorem Nb (v : Value) : TX v = zg v := by cases v <;> rfl
theorem J8 : ∀ l : List Value, Ct l = zh l
 | [] => rfl
 | v :: l => by
  show Bool.rec (motive := fun _ => Bool) false (Ct l) (TX v) = (zg v && zh l)
  rw [Nb, J8 l]
  cases zg v <;> rfl
def FZ (n : Nat) : List Value → List Value := Nat.rec (motive := fun _ => List Value → List Value) (fun l => l) (fun _ ih l => List.rec (motive := fun _ => List Value) [] (fun _ t _ => ih t) l) n
theorem KV : ∀ (n : Nat) (l : List Value), FZ n l = l.drop n
 | 0, _ => rfl
 | n + 1, [] => rfl
 | n + 1, _ :: l => KV n l
def tkX (n : Nat) : List Value → Option (List Value) := Nat.rec (motive := fun _ => List Value → Option (List Value)) (fun _ => some []) (fun _ ih l => List.rec (motive := fun _ => Option (List Value)) none (fun x t _ => Option.rec (motive := fun _ => Option (List Value)) none (fun r => some (x :: r)) (ih t)) l) n
theorem Vx : ∀ (l : List Value) (off : Nat), getN l off = (l.drop off).head?
 | [], off => by simp [getN]
 | x :: l, 0 => rfl
 | x :: l, off + 1 => Vx l off
theorem DD (c : Cells) (l : List Value) (hc : ∀ i, c.get i = getN l i) : ∀ (n off : Nat), tkX n (l.drop off) = c.take off n
 | 0, _ => rfl
 | n + 1, off => by
  simp only [Cells.take, hc, Vx]
  cases hd : l.drop off with
  | nil => rfl
  | cons x t =>
   have ht : t = l.drop (off + 1) := by
    rw [← List.drop_drop, hd]; rfl
   show Option.rec (motive := fun _ => Option (List Value)) none (fun r => some (x :: r)) (tkX n t) = (match c.take (off + 1) n with | none => none | some l => some (x :: l))
   rw [ht, DD c l hc n (off + 1)]
   cases c.take (off + 1) n <;> rfl
def Sm (c : Cells) (off n : Nat) : Option (List Value) := Cells.rec (motive := fun _ => Option (List Value)) (fun l => tkX n (FZ off l)) (fun _ _ _ => c.take off n) (fun l => tkX n (FZ off l)) c
theorem GH (c : Cells) (off n : Nat) : Sm c off n = c.take off n := by
 cases c with
 | list l => show tkX n (FZ off l) = _; rw [KV]; exact DD _ l (fun _ => rfl) n off
 | str l => show tkX n (FZ off l) = _; rw [KV]; exact DD _ l (fun _ => rfl) n off
 | tree m z t => rfl
def Lq (vs : List Value) : List Value → List Value := List.rec (motive := fun _ => List Value → List Value) (fun l => l) (fun v _ ih l => List.rec (motive := fun _ => List Value) [] (fun _ t _ => v :: ih t) l) vs
def KQ (off : Nat) (vs : List Value) : List Value → List Value := Nat.rec (motive := fun _ => List Value → List Value) (Lq vs) (fun _ ih l => List.rec (motive := fun _ => List Value) [] (fun x t _ => x :: ih t) l) off
theorem Jm : ∀ (off : Nat) (l : List Value), KQ off [] l = l
 | 0, _ => rfl
 | off + 1, [] => rfl
 | off + 1, x :: l => congrArg (x :: ·) (Jm off l)
theorem QB : ∀ (off : Nat) (v : Value) (vs l : List Value), KQ off (v :: vs) l = KQ (off + 1) vs (zA l off v)
 | 0, v, vs, [] => by cases vs <;> rfl
 | 0, v, vs, x :: l => rfl
 | off + 1, v, vs, [] => rfl
 | off + 1, v, vs, x :: l => congrArg (x :: ·) (QB off v vs l)
theorem KP : ∀ (vs : List Value) (off : Nat) (l : List Value), Cells.list (KQ off vs l) = (Cells.list l).fillFrom off vs
 | [], off, l => by rw [Jm]; rfl
 | v :: vs, off, l => by rw [QB]; exact KP vs (off + 1) _
theorem VA : ∀ (vs : List Value) (off : Nat) (l : List Value), Cells.str (KQ off vs l) = (Cells.str l).fillFrom off vs
 | [], off, l => by rw [Jm]; rfl
 | v :: vs, off, l => by rw [QB]; exact VA vs (off + 1) _
def NZ (c : Cells) (off : Nat) (vs : List Value) : Cells := Cells.rec (motive := fun _ => Cells) (fun l => .list (KQ off vs l)) (fun _ _ _ => c.fillFrom off vs) (fun l => .str (KQ off vs l)) c
theorem Sr (c : Cells) (off : Nat) (vs : List Value) : NZ c off vs = c.fillFrom off vs := by
 cases c with
 | list l => exact KP vs off l
 | str l => exact VA vs off l
 | tree m z t => rfl
def NW (c : Cells) : Nat := Cells.rec (motive := fun _ => Nat) JU (fun n _ _ => n) JU c
theorem Sn (c : Cells) : NW c = c.size := by
 cases c with
 | list l => exact Y6 l
 | str l => exact Y6 l
 | tree m z t => rfl
def Vl (s : DS) (k off n : Nat) : Option (List Value) := K2 none (fun c _ => Sm c off n) (hp s k)
theorem WG (s : DS) (k off n : Nat) : Vl s k off n = s.read k off n := by
 unfold Vl DS.read
 simp only [Qi, KF, GH]
 cases s.get k with
 | none => rfl
 | some ob => cases ob <;> rfl
def Kb (s : DS) (k off : Nat) (l : List Value) : Option DS :=
 K2 none (fun c ro => Bool.rec (motive := fun _ => Option DS) (Bool.rec (motive := fun _ => Option DS) none (So s k (.cells (NZ c off l) false)) (Nat.ble (Nat.add off (JU l)) (NW c))) none ro) (hp s k)
theorem Jb (s : DS) (k off : Nat) (l : List Value) : Kb s k off l = s.write k off l := by
 unfold Kb DS.write
 simp only [Qi, KF, Sr, VZ, Sn, Y6, Wu]
 cases s.get k with
 | none => rfl
 | some ob =>
  cases ob with
  | cells c ro => cases ro <;> rfl
  | _ => rfl
def NQ (l r : List Value) : List Value := List.rec (motive := fun _ => List Value) l (fun _ _ _ => l ++ r) r
theorem NP (l r : List Value) : NQ l r = l ++ r := by
 cases r with
 | nil => exact (List.append_nil l).symm
 | cons x r => rfl
def Sh (l r : List Value) : List Value := List.rec (motive := fun _ => List Value) r (fun x _ ih => x :: ih) l
theorem Tn (l r : List Value) : Sh l r = l ++ r := by
 induction l with
 | nil => rfl
 | cons x l ih => exact congrArg (x :: ·) ih
def evX (t : PT Value) (x : Operand) : Value := Rd.rec (motive := fun _ => Value) (fun f => f t) (rd x)
theorem Gl (t : PT Value) : evX t = ev t := by
 funext x
 unfold evX
 rw [CJ]
def GQ (n : Nat) (k : List Value → Option (List Value)) : List Value → Option (List Value) :=
 Nat.rec (motive := fun _ => List Value → Option (List Value)) k (fun _ ih zs => List.rec (motive := fun _ => Option (List Value)) none (fun z t _ => Option.rec (motive := fun _ => Option (List Value)) none (fun r => some (z :: r)) (ih t)) zs) n
def Fg (vs : List Value) (k : List Value → Option (List Value)) : List Value → Option (List Value) :=
 List.rec (motive := fun _ => List Value → Option (List Value)) k (fun v _ ih zs => List.rec (motive := fun _ => Option (List Value)) none (fun _ t _ => Option.rec (motive := fun _ => Option (List Value)) none (fun r => some (v :: r)) (ih t)) zs) vs
def C7 (ρ : Operand → Value) (parts : List (Nat × Nat × Operand)) : Nat → List Value → Option (List Value) :=
 List.rec (motive := fun _ => Nat → List Value → Option (List Value)) (fun _ zs => some zs)
  (fun p _ ih pos zs => Bool.rec (motive := fun _ => Option (List Value)) none (Bool.rec (motive := fun _ => Option (List Value)) none
   (GQ (Nat.sub p.1 pos) (Fg (ρ p.2.2).cells.toList (ih (Nat.add p.1 p.2.1))) zs) (Nat.beq (JU (ρ p.2.2).cells.toList) p.2.1)) (Nat.ble pos p.1)) parts
theorem Kf : ∀ (n : Nat) (k : List Value → Option (List Value)) (zs r : List Value), GQ n k zs = some r → ∃ a t r', zs = a ++ t ∧ a.length = n ∧ k t = some r' ∧ r = a ++ r'
 | 0, k, zs, r, h => ⟨[], zs, r, rfl, rfl, h, rfl⟩
 | n + 1, k, [], r, h => by cases h
 | n + 1, k, z :: zs, r, h => by
  have h : Option.rec (motive := fun _ => Option (List Value)) none (fun r => some (z :: r)) (GQ n k zs) = some r := h
  cases h1 : GQ n k zs with
  | none => rw [h1] at h; cases h
  | some r1 =>
   rw [h1] at h
   cases h
   obtain ⟨a, t, r', rfl, hl, hk, rfl⟩ := Kf n k zs r1 h1
   exact ⟨z :: a, t, r', rfl, congrArg Nat.succ hl, hk, rfl⟩
theorem Kw : ∀ (vs : List Value) (k : List Value → Option (List Value)) (zs r : List Value), Fg vs k zs = some r → ∃ a t r', zs = a ++ t ∧ a.length = vs.length ∧ k t = some r' ∧ r = vs ++ r'
 | [], k, zs, r, h => ⟨[], zs, r, rfl, rfl, h, rfl⟩
 | v :: vs, k, [], r, h => by cases h
 | v :: vs, k, z :: zs, r, h => by
  have h : Option.rec (motive := fun _ => Option (List Value)) none (fun r => some (v :: r)) (Fg vs k zs) = some r := h
  cases h1 : Fg vs k zs with
  | none => rw [h1] at h; cases h
  | some r1 =>
   rw [h1] at h
   cases h
   obtain ⟨a, t, r', rfl, hl, hk, rfl⟩ := Kw vs k zs r1 h1
   exact ⟨z :: a, t, r', rfl, congrArg Nat.succ hl, hk, rfl⟩
theorem KR (ρ : Operand → Value) : ∀ (parts : List (Nat × Nat × Operand)) (pos : Nat) (zs r pre : List Value), C7 ρ parts pos zs = some r → pre.length = pos → zi ρ (pre ++ zs) parts = some (pre ++ r)
 | [], pos, zs, r, pre, h, hp => by cases h; rfl
 | (off, size, x) :: rest, pos, zs, r, pre, h, hp => by
  have h : Bool.rec (motive := fun _ => Option (List Value)) none (Bool.rec (motive := fun _ => Option (List Value)) none
   (GQ (Nat.sub off pos) (Fg (ρ x).cells.toList (C7 ρ rest (Nat.add off size))) zs) (Nat.beq (JU (ρ x).cells.toList) size)) (Nat.ble pos off) = some r := h
  cases h1 : Nat.ble pos off with
  | false => rw [h1] at h; cases h
  | true =>
   rw [h1] at h
   cases h2 : Nat.beq (JU (ρ x).cells.toList) size with
   | false => rw [h2] at h; cases h
   | true =>
    rw [h2] at h
    obtain ⟨a, t, r', rfl, hl, hk, rfl⟩ := Kf _ _ _ _ h
    obtain ⟨b, t', r'', rfl, hl', hk', rfl⟩ := Kw _ _ _ _ hk
    have hle := Nat.le_of_ble_eq_true h1
    have hsz := Nat.eq_of_beq_eq_true h2
    rw [Y6] at hsz h2
    have hoff : (pre ++ a).length = off := by rw [List.length_append, hp, hl]; show pos + (off - pos) = off; omega
    have hb : b.length = size := hl'.trans hsz
    simp only [zi]
    have hcond : (Nat.beq (ρ x).cells.toList.length size && Nat.ble (off + size) (pre ++ (a ++ (b ++ t'))).length) = true := by
     rw [h2]
     simp only [Bool.true_and, Nat.ble_eq, List.length_append]
     rw [List.length_append] at hoff
     omega
    rw [if_pos hcond]
    have e1 : (pre ++ (a ++ (b ++ t'))).take off = pre ++ a := by
     rw [← List.append_assoc, ← hoff, List.take_left]
    have e2 : (pre ++ (a ++ (b ++ t'))).drop (off + size) = t' := by
     have : pre ++ (a ++ (b ++ t')) = (pre ++ a ++ b) ++ t' := by simp [List.append_assoc]
     rw [this]
     have hlen : (pre ++ a ++ b).length = off + size := by rw [List.length_append, hoff, hb]
     rw [← hlen, List.drop_left]
    rw [e1, e2]
    have := KR ρ rest (off + size) t' r'' (pre ++ a ++ (ρ x).cells.toList) hk' (by rw [List.length_append, hoff, hsz])
    simpa [List.append_assoc] using this
def V0 (ρ : Operand → Value) (z : List Value) (parts : List (Nat × Nat × Operand)) : Option (List Value) := Option.rec (motive := fun _ => Option (List Value)) (zi ρ z parts) (fun r => some r) (C7 ρ parts 0 z)
theorem Vm (ρ : Operand → Value) (z : List Value) (parts : List (Nat × Nat × Operand)) : V0 ρ z parts = zi ρ z parts := by
 unfold V0
 cases h : C7 ρ parts 0 z with
 | none => rfl
 | some r => exact (KR ρ parts 0 z r [] h rfl).symm
def PO (s : DS) (size : Nat) (x : Value) (n : Nat) : Option (List Value) :=
 match x with
 | .slice none _ _ => some []
 | .slice (some ⟨k, off, _⟩) _ _ => Vl s k off (n * size)
 | .string b => some ((b.data.toList.take n).map fun c => .int .u8 c.toNat)
 | _ => none
theorem Cw (s : DS) (size : Nat) (x : Value) (n : Nat) : PO s size x n = ZI s size x n := by
 unfold PO ZI
 simp only [WG]
 cases x with
 | slice a l c =>
  cases a with
  | none => rfl
  | some ad => obtain ⟨k, o, sp⟩ := ad; rfl
 | _ => rfl
def SL (v : Value) : Option Value := BV.rec (motive := fun _ => Option Value) none (fun b => some (.bool (Bool.rec (motive := fun _ => Bool) true false b))) (asB v)
def DF (c a b : Value) : Option Value := BV.rec (motive := fun _ => Option Value) none (fun c => some (Bool.rec (motive := fun _ => Value) b a c)) (asB c)
def V7 (k : IntKind) (v : Value) : Option Value := IV.rec (motive := fun _ => Option Value) none (fun _ a => some (.int k (Int.rec (motive := fun _ => Int) (fun m => JV k m) (fun _ => zt k a) a))) (asI v)
def Ll (v : Value) : Option Value := match v with
 | .pointer (some a) => some (.pointer (some a))
 | .func (.func f) a b => some (.func (.func f) a b)
 | .func (.yield l) a b => some (.func (.yield l) a b)
 | _ => none
def Su (v : Value) : Option Value := AV.rec (motive := fun _ => Option Value) (Ll v) (Option.rec none fun a => some (.pointer (some a))) (asA v)
def DH (off : Nat) (v : Value) : Option Value := PV.rec (motive := fun _ => Option Value) none (fun k o => some (.pointer (some ⟨k, Nat.add o off, none⟩))) (asP v)
def SP (n size : Nat) (x i : Value) : Option Value := PV.rec (motive := fun _ => Option Value) none (fun k o => Option.rec (motive := fun _ => Option Value) none (fun j => Bool.rec (motive := fun _ => Option Value) none (some (.pointer (some ⟨k, Nat.add o (Nat.mul j size), none⟩))) (Nat.ble (Nat.succ j) n)) (asN i)) (asP x)
def SN (size : Nat) (x i : Value) : Option Value := LV.rec (motive := fun _ => Option Value) none (fun a len _ => Option.rec (motive := fun _ => Option Value) none (Addr.rec (motive := fun _ => Option Value) fun k o _ => Option.rec (motive := fun _ => Option Value) none (fun j => Bool.rec (motive := fun _ => Option Value) none (some (.pointer (some ⟨k, Nat.add o (Nat.mul j size), none⟩))) (Nat.ble (Nat.succ j) len)) (asN i)) a) (asL x)
def DG (v : Value) : Option Value := LV.rec (motive := fun _ => Option Value) none (fun _ n _ => some (.int .i64 (Int.ofNat n))) (asL v)
def SR (i : Nat) (v : Value) : Option Value := TV.rec (motive := fun _ => Option Value) none (fun l => Nt.rec (motive := fun _ => Option Value) (fun f => f l) (nth i)) (asT v)
def SS (neg : Bool) (x y : Value) : Option Value := IV.rec (motive := fun _ => Option Value) none (fun k a => IV.rec (motive := fun _ => Option Value) none (fun k' b => Bool.rec (motive := fun _ => Option Value) none (Bool.rec (motive := fun _ => Option Value) (MY k a b) (MX k a b) neg) (Nat.beq (kcd k) (kcd k'))) (asI y)) (asI x)
def Kk (neg : Bool) (k : SK) (x y : Value) : Option Value := Option.rec none (fun b => some (.bool (Bool.rec b (Bool.rec true false b) neg))) (zH k x y)
def N6 (neg : Bool) (x y : Value) : Option Value :=
 AV.rec (motive := fun _ => Option Value) none (fun a => AV.rec (motive := fun _ => Option Value) none (fun b => Option.rec (motive := fun _ => Option Value) (some (.bool (Option.rec (motive := fun _ => Bool) (Bool.rec (motive := fun _ => Bool) true false neg) (fun _ => Bool.rec (motive := fun _ => Bool) false true neg) b))) (fun _ => Option.rec (motive := fun _ => Option Value) (some (.bool (Bool.rec (motive := fun _ => Bool) false true neg))) (fun _ => Kk neg .ptr x y) b) a) (asA y)) (asA x)
def CD (z : List Value) (parts : List (Nat × Nat × Operand)) (ρ : Operand → Value) : Option Value := match V0 ρ z parts with | some cs => some (.agg ⟨cs⟩) | none => none
def N3 (size : Nat) (x : Value) (lo hi mx : Option Value) : Option Value :=
 match x with
 | .slice a len cap => match ZS len cap lo hi mx with
  | some (l, h, m) => Yd a size l h m mx.isSome
  | none => none
 | _ => none
def N4 (n size : Nat) (x : Value) (lo hi mx : Option Value) : Option Value :=
 match x with
 | .pointer (some ⟨k, off, none⟩) => match ZS n n lo hi mx with
  | some (l, h, m) => Yd (some ⟨k, off, none⟩) size l h m true
  | none => none
 | _ => none
def Lm (off : Nat) (agg : Option Nat) (x : Value) : Option Value := match x with | .agg cs => partOf agg cs.toList off | _ => none
def ML (n size : Nat) (agg : Option Nat) (x i : Value) : Option Value :=
 match x, zU i with
 | .agg cs, some j => if Nat.blt j n then partOf agg cs.toList (j * size) else none
 | _, _ => none
def MK (x i : Value) : Option Value :=
 match x, zU i with
 | .string s, some j => match s.data.toList.drop j with
  | c :: _ => some (.int .u8 c.toNat)
  | [] => none
 | _, _ => none
def MJ (x : Value) : Option Value := match x with | .string s => some (.int .i64 s.data.toList.length) | _ => none
def N5 (n : Nat) (a : Value) (s : DS) : Option Value :=
 match a with
 | .pointer (some ⟨k, off, none⟩) => match Vl s k off n with
  | some l => some (.agg ⟨l⟩)
  | none => none
 | _ => none
def CC (x : Value) (s : DS) : Option Value :=
 match x with
 | .slice none _ _ => some (.string ⟨⟨[]⟩⟩)
 | .slice (some ⟨k, off, _⟩) len _ => match Vl s k off len with
  | some l => match ZU l with
   | some b => some (.string ⟨⟨b⟩⟩)
   | none => none
  | none => none
 | _ => none
def Kl (n size : Nat) (z : List Value) (parts : List (Nat × Nat × Operand)) (ρ : Operand → Value) (s : DS) : Option (Value × DS) :=
 if Nat.ble (n * size) 1048576 then
  match V0 ρ (repeatZ z n) parts with
  | some cs => some (.slice (some ⟨s.next, 0, none⟩) n n, JT s (.cells (.list cs) false))
  | none => none
 else none
def Jf (bytes : Nat) (z : List Value) (l c : Value) (s : DS) : Option (Value × DS) :=
 match zU l, zU c with
 | some l, some c =>
  if Nat.ble l c && Nat.ble c 1099511627776 && Nat.ble (c * bytes) 1099511627776 then
   some (.slice (some ⟨s.next, 0, none⟩) l c, JT s (.cells (match z with | [v] => if Nat.blt 32 c then .tree c v .nil else .list (repeatZ z c) | _ => .list (repeatZ z c)) false))
  else none
 | _, _ => none
def DJ (bytes size : Nat) (x y : Value) (s : DS) : Option (Value × DS) :=
 match x, YX y with
 | .slice base len cap, some n =>
  match PO s size y n with
  | none => none
  | some new =>
   if !(Nat.beq (JU new) (n * size) && Ct new) then none else
   if Nat.ble (len + n) cap then
    match base with
    | none => if Nat.beq n 0 then some (.slice none (len + n) cap, s) else none
    | some ⟨k, off, sp⟩ =>
     if Nat.beq n 0 then some (.slice (some ⟨k, off, sp⟩) (len + n) cap, s) else
     match Kb s k (off + len * size) new with
     | some s' => some (.slice (some ⟨k, off, sp⟩) (len + n) cap, s')
     | none => none
   else if Nat.ble (len + n) 1099511627776 && Nat.ble ((len + n) * bytes) 1099511627776 then
    match base with
    | none => if Nat.beq len 0 then some (.slice (some ⟨s.next, 0, some size⟩) n n, JT s (.cells (.list new) false)) else none
    | some ⟨k, off, none⟩ =>
     match Vl s k off (len * size) with
     | some old => if Ct old then some (.slice (some ⟨s.next, 0, some size⟩) (len + n) (len + n), JT s (.cells (.list (Sh old new)) false)) else none
     | none => none
    | some ⟨k, off, some sz⟩ =>
     if Nat.beq sz size then
      match hp s k with
      | some (.cells c false) => match Sm c off (len * size), s.kill k with
       | some old, some s' => if Ct old then some (.slice (some ⟨s'.next, 0, some size⟩) (len + n) (len + n), JT s' (.cells (c.like (Sh old new)) false)) else none
       | _, _ => none
      | _ => none
     else none
   else none
 | _, _ => none
def V9 (size : Nat) (d x : Value) (s : DS) : Option (Value × DS) :=
 match d, YX x with
 | .slice base len _, some m =>
  let n := if Nat.ble m len then m else len
  match PO s size x n with
  | none => none
  | some new =>
   if !(Nat.beq (JU new) (n * size) && Ct new) then none else
   match base with
   | none => some (.int .i64 n, s)
   | some ⟨k, off, _⟩ =>
    if Nat.beq n 0 then some (.int .i64 n, s) else
    match Kb s k off new with
    | some s' => some (.int .i64 n, s')
    | none => none
 | _, _ => none
def PU (size : Nat) (a v : Value) (s : DS) : Option DS :=
 PV.rec (motive := fun _ => Option DS) none (fun k off => Bool.rec (motive := fun _ => Option DS) none (Bool.rec (motive := fun _ => Option DS) none (Kb s k off v.cells.toList) (Ct v.cells.toList)) (Nat.beq (JU v.cells.toList) size)) (asP a)
theorem PS (size : Nat) (a v : Value) (s : DS) : PU size a v s = Je size a v s := by
 simp only [PU, Q7, Jb, J8, Y6, Wu, Je]
 cases a with
 | pointer p =>
  cases p with
  | none => rfl
  | some ad =>
   obtain ⟨k, off, sp⟩ := ad
   cases sp with
   | some z => rfl
   | none => dsimp only; cases Nat.beq v.cells.toList.length size <;> cases zh v.cells.toList <;> rfl
 | _ => rfl
def xop (o : DOp) : XOp :=
 match o with
 | .mv x => lt1 x fun f => .tot f
 | .bin op x y => Bf.rec (fun g => lt1 x fun f => lt1 y fun h => .val fun t _ => g (f t) (h t)) (N7 op)
 | .eq neg (.one .int) x y => lt1 x fun f => lt1 y fun h => .val fun t _ => SS neg (f t) (h t)
 | .eq neg (.one .ptr) x y => lt1 x fun f => lt1 y fun h => .val fun t _ => N6 neg (f t) (h t)
 | .eq neg (.one k) x y => lt1 x fun f => lt1 y fun h => .val fun t _ => Kk neg k (f t) (h t)
 | .un .not x => lt1 x fun f => .val fun t _ => SL (f t)
 | .pick c a b => lt1 c fun f => lt1 a fun g => lt1 b fun h => .val fun t _ => DF (f t) (g t) (h t)
 | .cvInt k x => lt1 x fun f => .val fun t _ => V7 k (f t)
 | .nilck x => lt1 x fun f => .val fun t _ => Su (f t)
 | .alloc z => .neu fun _ => .cells (.list z) false
 | .box x => lt1 x fun f => .neu fun t => .cells (.list (f t).cells.toList) false
 | .build z parts => .val fun t _ => CD z parts (evX t)
 | .bslice n size z parts => .act fun _ t s => Kl n size z parts (evX t) s
 | .ld none a => lt1 a fun f => .val fun t s => xld (f t) s
 | .ld (some n) a => lt1 a fun f => .val fun t s => N5 n (f t) s
 | .st 1 a x => lt1 a fun f => lt1 x fun g => .eff fun t s => MC (f t) (g t) s
 | .st size a x => lt1 a fun f => lt1 x fun g => .eff fun t s => PU size (f t) (g t) s
 | .mkf f first captured => La.rec (fun g => La.rec (fun h => .tot fun t => .func (.func f) ⟨g t⟩ ⟨h t⟩) (la captured)) (la first)
 | .mkslice bytes z l c => lt1 l fun f => lt1 c fun g => .act fun _ t s => Jf bytes z (f t) (g t) s
 | .slL size x lo hi mx => lt1 x fun f => .val fun t _ => N3 size (f t) (lo.map (evX t)) (hi.map (evX t)) (mx.map (evX t))
 | .slA n size x lo hi mx => lt1 x fun f => .val fun t _ => N4 n size (f t) (lo.map (evX t)) (hi.map (evX t)) (mx.map (evX t))
 | .fadr off x => lt1 x fun f => .val fun t _ => DH off (f t)
 | .fld off agg x => lt1 x fun f => .val fun t _ => Lm off agg (f t)
 | .ixA n size x i => lt1 x fun f => lt1 i fun g => .val fun t _ => SP n size (f t) (g t)
 | .ixL size x i => lt1 x fun f => lt1 i fun g => .val fun t _ => SN size (f t) (g t)
 | .idxA n size agg x i => lt1 x fun f => lt1 i fun g => .val fun t _ => ML n size agg (f t) (g t)
 | .idxS x i => lt1 x fun f => lt1 i fun g => .val fun t _ => MK (f t) (g t)
 | .ext x i => lt1 x fun f => .val fun t _ => SR i (f t)
 | .blenL x => lt1 x fun f => .val fun t _ => DG (f t)
 | .blenS x => lt1 x fun f => .val fun t _ => MJ (f t)
 | .cvToStr x => lt1 x fun f => .val fun t s => CC (f t) s
 | .bapp bytes size x y => lt1 x fun f => lt1 y fun g => .act fun _ t s => DJ bytes size (f t) (g t) s
 | .bcopy size x y => lt1 x fun f => lt1 y fun g => .act fun _ t s => V9 size (f t) (g t) s
 | .call f args => lt1 f fun g => La.rec (fun h => .act fun call t s => call (g t) (h t) s) (la args)
 | o => .act fun call t s => dop call (ev t) s o
end
end Go.Dx
set_option linter.unusedVariables false
set_option linter.unusedSimpArgs false
set_option linter.unusedSectionVars false
namespace Go.Dx
open Go
noncomputable section
variable (ρ : Operand → Value)
theorem SJ (x : Operand) : SL (ρ x) = zb ρ (.un .not x) := by
 simp only [SL, J7, zb]
 generalize ρ x = A
 cases A with
 | bool b => cases b <;> rfl
 | _ => rfl
theorem TL (c a b : Operand) : DF (ρ c) (ρ a) (ρ b) = zb ρ (.pick c a b) := by
 simp only [DF, J7, zb]
 generalize ρ c = A
 cases A with
 | bool b => cases b <;> rfl
 | _ => rfl
theorem DI (k : IntKind) (x : Operand) : V7 k (ρ x) = zb ρ (.cvInt k x) := by
 simp only [V7, Ww, zb]
 generalize ρ x = A
 cases A with
 | int j a =>
  cases a with
  | ofNat m => show some (Value.int k (JV k m)) = _; rw [Xz]
  | negSucc m => rfl
 | _ => rfl
theorem Ss (x : Operand) : Su (ρ x) = zb ρ (.nilck x) := by
 simp only [Su, zb]
 generalize ρ x = A
 cases A with
 | pointer p => cases p <;> rfl
 | func g a b => cases g <;> rfl
 | _ => rfl
theorem TN (off : Nat) (x : Operand) : DH off (ρ x) = zb ρ (.fadr off x) := by
 simp only [DH, Q7, zb]
 generalize ρ x = A
 cases A with
 | pointer p =>
  cases p with
  | none => rfl
  | some ad =>
   obtain ⟨k, o, sp⟩ := ad
   cases sp <;> rfl
 | _ => rfl
theorem NL {α : Type} (c : Bool) (a b : α) : _root_.cond c a b = if c = true then a else b := by cases c <;> rfl
theorem SO (n size : Nat) (x i : Operand) : SP n size (ρ x) (ρ i) = zb ρ (.ixA n size x i) := by
 simp only [SP, Q7, Pv, zb, Wu]
 generalize ρ x = A
 cases A with
 | pointer p =>
  cases p with
  | none => rfl
  | some ad =>
   obtain ⟨k, o, sp⟩ := ad
   cases sp with
   | some z => rfl
   | none => dsimp only; cases zU (ρ i) <;> rfl
 | _ => rfl
theorem SM (size : Nat) (x i : Operand) : SN size (ρ x) (ρ i) = zb ρ (.ixL size x i) := by
 simp only [SN, Tm, Pv, zb, Wu]
 generalize ρ x = A
 cases A with
 | slice p len cap =>
  cases p with
  | none => rfl
  | some ad =>
   obtain ⟨k, o, sp⟩ := ad
   dsimp only; cases zU (ρ i) <;> rfl
 | _ => rfl
theorem TM (x : Operand) : DG (ρ x) = zb ρ (.blenL x) := by
 simp only [DG, Tm, zb]
 generalize ρ x = A
 cases A <;> rfl
theorem SQ (x : Operand) (i : Nat) : SR i (ρ x) = zb ρ (.ext x i) := by
 simp only [SR, NN, zb, Gd]
 generalize ρ x = A
 cases A <;> rfl
theorem NI (k : SK) (x y : Value) : Ym 5000 (.one k) x y = zH k x y := by
 show Ym (4999 + 1) (.one k) x y = _
 simp only [Ym]
theorem Kj (neg : Bool) (k : SK) (x y : Operand) : Kk neg k (ρ x) (ρ y) = zb ρ (.eq neg (.one k) x y) := by
 simp only [Kk, zb, NI]
 cases zH k (ρ x) (ρ y) with
 | none => rfl
 | some b => cases neg <;> cases b <;> rfl
theorem TP (neg : Bool) (x y : Value) : SS neg x y = Kk neg .int x y := by
 simp only [SS, Kk, Ww]
 cases x with
 | int k a =>
  cases y with
  | int k' b =>
   simp only [zH, Vq, C9, C8]
   by_cases e : k = k'
   · subst e
     simp only [decide_true, if_true]
     cases neg with
     | false => rfl
     | true => show zm .neq k a b = some (.bool (Bool.rec true false (decide (a = b)))); simp only [zm]; cases decide (a = b) <;> rfl
   · simp only [decide_eq_false e, if_neg e]
  | _ => rfl
 | _ => rfl
theorem TO (neg : Bool) (x y : Value) : N6 neg x y = Kk neg .ptr x y := by
 cases x with
 | pointer a =>
  cases y with
  | pointer b =>
   cases a with
   | none => cases b <;> cases neg <;> rfl
   | some a => cases b with
    | none => cases neg <;> rfl
    | some b => rfl
  | _ => first | rfl | (cases a with | none => rfl | some a => rfl)
 | _ => rfl
theorem V6 (s : DS) (size : Nat) (a x : Operand) : (Option.rec (motive := fun _ => Option (Value × DS)) none (fun s' => some (zv, s')) (Je size (ρ a) (ρ x) s)) = zl ρ s (.st size a x) := by
 simp only [Je, zl]
 generalize ρ a = A
 cases A with
 | pointer p =>
  cases p with
  | none => rfl
  | some ad =>
   obtain ⟨k, o, sp⟩ := ad
   cases sp with
   | some z => rfl
   | none =>
    dsimp only
    split
    · cases s.write k o (ρ x).cells.toList <;> rfl
    · rfl
 | _ => rfl
theorem Dv (o : DOp) (call : zn) (t : PT Value) (s : DS) : (xop o).go call t s = dop call (ev t) s o := by
 have val : ∀ (o : DOp) (z : Option Value), o.cls = .pure → z = zb (ev t) o → (Option.rec (motive := fun _ => Option (Value × DS)) none (fun v => some (v, s)) z) = dop call (ev t) s o := by
  intro o z hc hz
  subst hz
  unfold dop
  rw [hc]
  cases zb (ev t) o <;> rfl
 have rdv : ∀ (o : DOp) (z : Option Value), o.cls = .read → z = zk (ev t) s o → (Option.rec (motive := fun _ => Option (Value × DS)) none (fun v => some (v, s)) z) = dop call (ev t) s o := by
  intro o z hc hz
  subst hz
  unfold dop
  rw [hc]
  cases zk (ev t) s o <;> rfl
 cases o with
 | mv x => simp only [xop, z9]; rfl
 | bin op x y => simp only [xop, z9, Ru]; exact val (.bin op x y) _ rfl rfl
 | eq neg e x y =>
  cases e with
  | one k =>
   cases k <;> simp only [xop, z9]
   case int => exact val (.eq neg (.one .int) x y) _ rfl ((TP neg _ _).trans (Kj _ neg .int x y))
   case ptr => exact val (.eq neg (.one .ptr) x y) _ rfl ((TO neg _ _).trans (Kj _ neg .ptr x y))
   all_goals exact val (.eq neg (.one _) x y) _ rfl (Kj _ neg _ x y)
  | struct fs => rfl
  | arr n z e => rfl
 | un op x =>
  cases op <;> first
   | rfl
   | (simp only [xop, z9]; exact val (.un .not x) _ rfl (SJ _ x))
 | pick c a b => simp only [xop, z9]; exact val (.pick c a b) _ rfl (TL _ c a b)
 | cvInt k x => simp only [xop, z9]; exact val (.cvInt k x) _ rfl (DI _ k x)
 | nilck x => simp only [xop, z9]; exact val (.nilck x) _ rfl (Ss _ x)
 | alloc z => show some (Value.pointer (some ⟨s.next, 0, none⟩), JT s (.cells (.list z) false)) = _; rw [Wf]; rfl
 | box x => simp only [xop, z9]; show some (Value.pointer (some ⟨s.next, 0, none⟩), JT s (.cells (.list (ev t x).cells.toList) false)) = _; rw [Wf]; rfl
 | build z parts => exact val (.build z parts) _ rfl (by simp only [CD, Vm, Gl, zb]; rfl)
 | ld agg a =>
  cases agg with
  | none => simp only [xop, z9]; exact rdv (.ld none a) _ rfl (ME _ s a)
  | some n => simp only [xop, z9]; exact rdv (.ld (some n) a) _ rfl (by simp only [N5, WG, zk]; rfl)
 | st size a x =>
  by_cases h : size = 1
  · subst h
    simp only [xop, z9]
    refine Eq.trans ?_ (V6 (ev t) s 1 a x)
    rw [← PN]
    rfl
  · have : xop (.st size a x) = lt1 a fun f => lt1 x fun g => .eff fun t s => PU size (f t) (g t) s := by
     unfold xop
     split <;> first | rfl | contradiction | (rename_i heq; cases heq; first | rfl | exact absurd rfl h) | skip
     all_goals simp_all
    rw [this]
    simp only [z9, PS]
    exact V6 (ev t) s size a x
 | mkf f first captured => simp only [xop, RE]; rfl
 | slL size x lo hi mx => simp only [xop, z9]; exact val (.slL size x lo hi mx) _ rfl (by simp only [N3, zb, Option.isSome_map, Gl]; generalize ev t x = A; cases A <;> rfl)
 | slA n size x lo hi mx => simp only [xop, z9]; exact val (.slA n size x lo hi mx) _ rfl (by simp only [N4, zb, Gl]; rfl)
 | fadr off x => simp only [xop, z9]; exact val (.fadr off x) _ rfl (TN _ off x)
 | fld off agg x => simp only [xop, z9]; exact val (.fld off agg x) _ rfl rfl
 | ixA n size x i => simp only [xop, z9]; exact val (.ixA n size x i) _ rfl (SO _ n size x i)
 | ixL size x i => simp only [xop, z9]; exact val (.ixL size x i) _ rfl (SM _ size x i)
 | idxA n size agg x i => simp only [xop, z9]; exact val (.idxA n size agg x i) _ rfl rfl
 | idxS x i => simp only [xop, z9]; exact val (.idxS x i) _ rfl rfl
 | ext x i => simp only [xop, z9]; exact val (.ext x i) _ rfl (SQ _ x i)
 | blenL x => simp only [xop, z9]; exact val (.blenL x) _ rfl (TM _ x)
 | blenS x => simp only [xop, z9]; exact val (.blenS x) _ rfl rfl
 | cvToStr x => simp only [xop, z9]; exact rdv (.cvToStr x) _ rfl (by simp only [CC, zk, WG]; rfl)
 | bslice n size z parts => show Kl n size z parts (evX t) s = zL (ev t) s (.bslice n size z parts); simp only [Kl, zL, Vm, Gl, Wf]; rfl
 | mkslice bytes z l c => simp only [xop, z9]; show Jf bytes z (ev t l) (ev t c) s = zL (ev t) s (.mkslice bytes z l c); simp only [Jf, zL, Wf]; rfl
 | bapp bytes size x y => simp only [xop, z9]; show DJ bytes size (ev t x) (ev t y) s = zl (ev t) s (.bapp bytes size x y); simp only [DJ, zl, Wf, Cw, WG, Jb, KF, GH, J8, Y6, Tn]; rfl
 | bcopy size x y => simp only [xop, z9]; show V9 size (ev t x) (ev t y) s = zl (ev t) s (.bcopy size x y); simp only [V9, zl, Wf, Cw, WG, Jb, J8, Y6]; rfl
 | call f args => simp only [xop, z9, RE]; rfl
 | _ => rfl
end
end Go.Dx
