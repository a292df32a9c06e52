/- A part. -/
import GoSem.Step
set_option linter.unusedVariables false
set_option linter.unusedSimpArgs false
set_option linter.unusedSectionVars false
namespace Go.Dx
theorem z0 : (¬False) = True := not_false_eq_true
theorem z1 {α : Type _} {a b : α} : (some a).getD b = a := by simp
theorem z2 {α : Type _} (a b : α) : (some a = some b) = (a = b) := by simp
theorem z3 : (false = true) = False := Bool.false_eq_true
theorem z4 {α β : Type _} {f : α → β} {a : α} {l : List α} : (a :: l).map f = f a :: l.map f := by simp
theorem z5 {α β : Type _} {f : α → β} : ([] : List α).map f = [] := by simp
inductive BT (α : Type) where
 | nil
 | node (v : Option α) (l r : BT α)
namespace BT
variable {α : Type}
def get : BT α → Nat → Option α
 | .nil, _ => none
 | .node v l r, k =>
  match k with
  | 0 => v
  | k + 1 => if k % 2 == 0 then l.get (k / 2) else r.get (k / 2)
def ZR : Nat → BT α → Nat → Option α → BT α
 | 0, t, _, _ => t
 | n + 1, t, k, x =>
  match k with
  | 0 => match t with
   | .nil => .node x .nil .nil
   | .node _ l r => .node x l r
  | k + 1 => match t with
   | .nil => if k % 2 == 0 then .node none (ZR n .nil (k / 2) x) .nil else .node none .nil (ZR n .nil (k / 2) x)
   | .node v l r => if k % 2 == 0 then .node v (ZR n l (k / 2) x) r else .node v l (ZR n r (k / 2) x)
def put (t : BT α) (k : Nat) (x : Option α) : BT α := ZR (k + 1) t k x
theorem get_nil (k : Nat) : (BT.nil : BT α).get k = none := by cases k <;> rfl
theorem Xo : ∀ (n : Nat) (t : BT α) (k : Nat) (x : Option α) (j : Nat), k < n → (ZR n t k x).get j = if j = k then x else t.get j
 | 0, _, _, _, _, h => absurd h (Nat.not_lt_zero _)
 | n + 1, t, k, x, j, h => by
  cases k with
  | zero =>
   cases t with
   | nil => cases j <;> simp [ZR, get]
   | node v l r => cases j <;> simp [ZR, get]
  | succ k =>
   have hk : k / 2 < n := by omega
   have hp : k / 2 = k / 2 := rfl
   cases t with
   | nil =>
    cases j with
    | zero => simp only [ZR]; split <;> simp [get]
    | succ j =>
     by_cases hm : k % 2 = 0
     · by_cases hj : j % 2 = 0
       · have := Xo n (.nil : BT α) (k / 2) x (j / 2) hk
         simp [ZR, get, hm, hj, this]
         by_cases e : j = k
         · simp [e]
         · have : ¬ j / 2 = k / 2 := by omega
           simp [e, this, get_nil]
       · have : ¬ j = k := by rintro rfl; exact hj hm
         simp [ZR, get, hm, hj, this]
     · by_cases hj : j % 2 = 0
       · have : ¬ j = k := by rintro rfl; exact hm hj
         simp [ZR, get, hm, hj, this]
       · have := Xo n (.nil : BT α) (k / 2) x (j / 2) hk
         simp [ZR, get, hm, hj, this]
         by_cases e : j = k
         · simp [e]
         · have : ¬ j / 2 = k / 2 := by omega
           simp [e, this, get_nil]
   | node v l r =>
    cases j with
    | zero => simp only [ZR]; split <;> simp [get]
    | succ j =>
     by_cases hm : k % 2 = 0
     · by_cases hj : j % 2 = 0
       · have := Xo n l (k / 2) x (j / 2) hk
         simp [ZR, get, hm, hj, this]
         by_cases e : j = k
         · simp [e]
         · have : ¬ j / 2 = k / 2 := by omega
           simp [e, this]
       · have : ¬ j = k := by rintro rfl; exact hj hm
         simp [ZR, get, hm, hj, this]
     · by_cases hj : j % 2 = 0
       · have : ¬ j = k := by rintro rfl; exact hm hj
         simp [ZR, get, hm, hj, this]
       · have := Xo n r (k / 2) x (j / 2) hk
         simp [ZR, get, hm, hj, this]
         by_cases e : j = k
         · simp [e]
         · have : ¬ j / 2 = k / 2 := by omega
           simp [e, this]
theorem get_put (t : BT α) (k : Nat) (x : Option α) (j : Nat) : (t.put k x).get j = if j = k then x else t.get j :=
 Xo (k + 1) t k x j (Nat.lt_succ_self k)
end BT
inductive V8 (α : Type) where
 | mk (a0 a1 a2 a3 a4 a5 a6 a7 : α)
namespace V8
variable {α : Type}
def same (a : α) : V8 α := .mk a a a a a a a a
def get : Nat → V8 α → α
 | 0, .mk a _ _ _ _ _ _ _ => a
 | 1, .mk _ a _ _ _ _ _ _ => a
 | 2, .mk _ _ a _ _ _ _ _ => a
 | 3, .mk _ _ _ a _ _ _ _ => a
 | 4, .mk _ _ _ _ a _ _ _ => a
 | 5, .mk _ _ _ _ _ a _ _ => a
 | 6, .mk _ _ _ _ _ _ a _ => a
 | _, .mk _ _ _ _ _ _ _ a => a
def upd : Nat → (α → α) → V8 α → V8 α
 | 0, g, .mk a b c d e f h k => .mk (g a) b c d e f h k
 | 1, g, .mk a b c d e f h k => .mk a (g b) c d e f h k
 | 2, g, .mk a b c d e f h k => .mk a b (g c) d e f h k
 | 3, g, .mk a b c d e f h k => .mk a b c (g d) e f h k
 | 4, g, .mk a b c d e f h k => .mk a b c d (g e) f h k
 | 5, g, .mk a b c d e f h k => .mk a b c d e (g f) h k
 | 6, g, .mk a b c d e f h k => .mk a b c d e f (g h) k
 | _, g, .mk a b c d e f h k => .mk a b c d e f h (g k)
theorem get_same (i : Nat) (a : α) : get i (same a) = a := by
 unfold same get
 split <;> first | rfl | (rename_i h; cases h; rfl)
theorem get_upd {i j : Nat} (g : α → α) (v : V8 α) (hi : i < 8) (hj : j < 8) : get j (upd i g v) = if j = i then g (get i v) else get j v := by
 obtain ⟨a, b, c, d, e, f, h, k⟩ := v
 match i, hi with
 | 0, _ | 1, _ | 2, _ | 3, _ | 4, _ | 5, _ | 6, _ | 7, _ =>
  match j, hj with
  | 0, _ | 1, _ | 2, _ | 3, _ | 4, _ | 5, _ | 6, _ | 7, _ => rfl
end V8
inductive PT (α : Type) where
 | mk (lo : V8 (V8 (Option α))) (mid : V8 (V8 (V8 (V8 (Option α))))) (far : V8 (V8 (V8 (V8 (V8 (Option α)))))) (big : BT α)
namespace PT
variable {α : Type}
def nil : PT α := .mk (.same (.same none)) (.same (.same (.same (.same none)))) (.same (.same (.same (.same (.same none))))) .nil
@[irreducible] def get : PT α → Nat → Option α
 | .mk lo mid far big, k =>
  if k < 64 then (lo.get (k / 8)).get (k % 8)
  else if k < 4160 then ((((mid.get ((k - 64) / 512)).get ((k - 64) / 64 % 8)).get ((k - 64) / 8 % 8)).get ((k - 64) % 8))
  else if k < 36928 then (((((far.get ((k - 4160) / 4096)).get ((k - 4160) / 512 % 8)).get ((k - 4160) / 64 % 8)).get ((k - 4160) / 8 % 8)).get ((k - 4160) % 8))
  else big.get k
@[irreducible] def put : PT α → Nat → Option α → PT α
 | .mk lo mid far big, k, x =>
  if k < 64 then .mk (lo.upd (k / 8) (V8.upd (k % 8) fun _ => x)) mid far big
  else if k < 4160 then .mk lo (mid.upd ((k - 64) / 512) (V8.upd ((k - 64) / 64 % 8) (V8.upd ((k - 64) / 8 % 8) (V8.upd ((k - 64) % 8) fun _ => x)))) far big
  else if k < 36928 then .mk lo mid (far.upd ((k - 4160) / 4096) (V8.upd ((k - 4160) / 512 % 8) (V8.upd ((k - 4160) / 64 % 8) (V8.upd ((k - 4160) / 8 % 8) (V8.upd ((k - 4160) % 8) fun _ => x))))) big
  else .mk lo mid far (big.put k x)
def ofList (l : List α) : PT α := (l.foldl (fun (p : Nat × PT α) x => (p.1 + 1, p.2.put p.1 (some x))) (0, .nil)).2
theorem get_nil (k : Nat) : (PT.nil : PT α).get k = none := by
 simp only [nil, get, V8.get_same, BT.get_nil, ite_self]
theorem get_put (t : PT α) (k : Nat) (x : Option α) (j : Nat) : (t.put k x).get j = if j = k then x else t.get j := by
 obtain ⟨lo, mid, far, big⟩ := t
 by_cases k1 : k < 64
 · simp only [put, k1, if_true, get]
   by_cases j1 : j < 64
   · simp only [j1, if_true]
     rw [V8.get_upd _ _ (by omega) (by omega)]
     by_cases e1 : j / 8 = k / 8
     · rw [if_pos e1, V8.get_upd _ _ (by omega) (by omega), e1]
       by_cases e2 : j % 8 = k % 8
       · rw [if_pos e2, if_pos (by omega)]
       · rw [if_neg e2, if_neg (by omega)]
     · rw [if_neg e1, if_neg (by omega)]
   · rw [if_neg j1, if_neg (by omega : ¬ j = k), if_neg j1]
 · by_cases k2 : k < 4160
   · simp only [put, k1, k2, if_true, if_false, get]
     by_cases j1 : j < 64
     · rw [if_pos j1, if_neg (by omega : ¬ j = k), if_pos j1]
     · rw [if_neg j1, if_neg j1]
       by_cases j2 : j < 4160
       · rw [if_pos j2, if_pos j2, V8.get_upd _ _ (by omega) (by omega)]
         by_cases e1 : (j - 64) / 512 = (k - 64) / 512
         · rw [if_pos e1, V8.get_upd _ _ (by omega) (by omega), e1]
           by_cases e2 : (j - 64) / 64 % 8 = (k - 64) / 64 % 8
           · rw [if_pos e2, V8.get_upd _ _ (by omega) (by omega), e2]
             by_cases e3 : (j - 64) / 8 % 8 = (k - 64) / 8 % 8
             · rw [if_pos e3, V8.get_upd _ _ (by omega) (by omega), e3]
               by_cases e4 : (j - 64) % 8 = (k - 64) % 8
               · rw [if_pos e4, if_pos (by omega)]
               · rw [if_neg e4, if_neg (by omega)]
             · rw [if_neg e3, if_neg (by omega)]
           · rw [if_neg e2, if_neg (by omega)]
         · rw [if_neg e1, if_neg (by omega)]
       · rw [if_neg j2, if_neg j2, if_neg (by omega : ¬ j = k)]
   · by_cases k3 : k < 36928
     · simp only [put, k1, k2, k3, if_true, if_false, get]
       by_cases j1 : j < 64
       · rw [if_pos j1, if_neg (by omega : ¬ j = k), if_pos j1]
       · rw [if_neg j1, if_neg j1]
         by_cases j2 : j < 4160
         · rw [if_pos j2, if_pos j2, if_neg (by omega : ¬ j = k)]
         · rw [if_neg j2, if_neg j2]
           by_cases j3 : j < 36928
           · rw [if_pos j3, if_pos j3, V8.get_upd _ _ (by omega) (by omega)]
             by_cases e1 : (j - 4160) / 4096 = (k - 4160) / 4096
             · rw [if_pos e1, V8.get_upd _ _ (by omega) (by omega), e1]
               by_cases e2 : (j - 4160) / 512 % 8 = (k - 4160) / 512 % 8
               · rw [if_pos e2, V8.get_upd _ _ (by omega) (by omega), e2]
                 by_cases e3 : (j - 4160) / 64 % 8 = (k - 4160) / 64 % 8
                 · rw [if_pos e3, V8.get_upd _ _ (by omega) (by omega), e3]
                   by_cases e4 : (j - 4160) / 8 % 8 = (k - 4160) / 8 % 8
                   · rw [if_pos e4, V8.get_upd _ _ (by omega) (by omega), e4]
                     by_cases e5 : (j - 4160) % 8 = (k - 4160) % 8
                     · rw [if_pos e5, if_pos (by omega)]
                     · rw [if_neg e5, if_neg (by omega)]
                   · rw [if_neg e4, if_neg (by omega)]
                 · rw [if_neg e3, if_neg (by omega)]
               · rw [if_neg e2, if_neg (by omega)]
             · rw [if_neg e1, if_neg (by omega)]
           · rw [if_neg j3, if_neg j3, if_neg (by omega : ¬ j = k)]
     · simp only [put, k1, k2, k3, if_false, get]
       by_cases j1 : j < 64
       · rw [if_pos j1, if_neg (by omega : ¬ j = k), if_pos j1]
       · rw [if_neg j1, if_neg j1]
         by_cases j2 : j < 4160
         · rw [if_pos j2, if_pos j2, if_neg (by omega : ¬ j = k)]
         · rw [if_neg j2, if_neg j2]
           by_cases j3 : j < 36928
           · rw [if_pos j3, if_pos j3, if_neg (by omega : ¬ j = k)]
           · rw [if_neg j3, if_neg j3, BT.get_put]
end PT
inductive SK where
 | bool | int | str | ptr | slice | map | func
 deriving DecidableEq, Inhabited
inductive ET where
 | one (k : SK)
 | struct (fs : List (Nat × Nat × ET))
 | arr (len size : Nat) (e : ET)
 deriving Inhabited
inductive KT where
 | num | txt
 | agg (ks : List IntKind)
 deriving Inhabited
inductive DOp where
 | mv (x : Operand)
 | pick (c a b : Operand)
 | bin (op : BinOp) (x y : Operand)
 | eq (neg : Bool) (t : ET) (x y : Operand)
 | un (op : UnOp) (x : Operand)
 | cvInt (k : IntKind) (x : Operand)
 | cvStr (x : Operand)
 | cvToBytes (x : Operand)
 | cvToStr (x : Operand)
 | nilck (x : Operand)
 | alloc (z : List Value)
 | box (x : Operand)
 | build (z : List Value) (parts : List (Nat × Nat × Operand))
 | bslice (n size : Nat) (z : List Value) (parts : List (Nat × Nat × Operand))
 | ld (agg : Option Nat) (a : Operand)
 | st (size : Nat) (a x : Operand)
 | mkf (f : FuncId) (first captured : List Operand)
 | mkmap (r : Option Operand)
 | mkslice (bytes : Nat) (z : List Value) (l c : Operand)
 | slS (x : Operand) (lo hi : Option Operand)
 | slL (size : Nat) (x : Operand) (lo hi mx : Option Operand)
 | slA (n size : Nat) (x : Operand) (lo hi mx : Option Operand)
 | fadr (off : Nat) (x : Operand)
 | fld (off : Nat) (agg : Option Nat) (x : Operand)
 | ixA (n size : Nat) (x i : Operand)
 | ixL (size : Nat) (x i : Operand)
 | idxA (n size : Nat) (agg : Option Nat) (x i : Operand)
 | idxS (x i : Operand)
 | look (str : KT) (z : Value) (ok : Bool) (m k : Operand)
 | mupd (str : KT) (m k x : Operand)
 | ment (str : KT) (z : Value) (m k : Operand)
 | estore (m s x : Operand)
 | rng (x : Operand)
 | nxt (it : Operand)
 | ent (it : Operand)
 | ext (x : Operand) (i : Nat)
 | bapp (bytes size : Nat) (s x : Operand)
 | bappZ (bytes : Nat) (z : List Value) (s x : Operand)
 | blenS (x : Operand)
 | blenL (x : Operand)
 | bcapL (x : Operand)
 | blenM (x : Operand)
 | blenA (n : Nat)
 | bcopy (size : Nat) (d s : Operand)
 | bdel (str : KT) (m k : Operand)
 | bclrM (m : Operand)
 | bclrL (z : List Value) (x : Operand)
 | cvB (x : Operand)
 | s2a (n : Nat) (x : Operand)
 | bmin (xs : List Operand)
 | bmax (xs : List Operand)
 | call (f : Operand) (args : List Operand)
 | bad
 deriving Inhabited
structure zK where
 dst : Option Nat
 op : DOp
 guard : Option (Nat × Bool)
 haz : List Nat
 note : Bool
 deriving Inhabited
inductive DCode where
 | skip
 | ret
 | exit (id : Nat)
 | region (ops : List zK)
 | seq (a b : DCode)
 | cond (c : Operand) (a b : DCode)
 | block (id : Nat) (b : DCode)
 | loop (b : DCode)
 | rangeFunc (f : Operand) (params : List Nat) (assign body : DCode)
 | bad
 deriving Inhabited
inductive DRes where
 | tmp (t : Nat)
 | cell (a : Nat) (agg : Option Nat)
 deriving Inhabited
structure zf where
 ntmps : Nat
 results : List DRes
 body : DCode
 deriving Inhabited
inductive DExit where
 | normal
 | ret
 | exit (id : Nat)
 deriving DecidableEq, Inhabited
inductive Cells where
 | list (l : List Value)
 | tree (n : Nat) (z : Value) (t : PT Value)
 | str (l : List Value)
 deriving Inhabited
def getN : List Value → Nat → Option Value
 | [], _ => none
 | x :: _, 0 => some x
 | _ :: l, n + 1 => getN l n
def zA : List Value → Nat → Value → List Value
 | [], _, _ => []
 | _ :: l, 0, v => v :: l
 | x :: l, n + 1, v => x :: zA l n v
namespace Cells
def size : Cells → Nat
 | .list l => l.length
 | .tree n _ _ => n
 | .str l => l.length
def get : Cells → Nat → Option Value
 | .list l, i => getN l i
 | .tree n z t, i => if i < n then some ((t.get i).getD z) else none
 | .str l, i => getN l i
def set : Cells → Nat → Value → Cells
 | .list l, i, v => .list (zA l i v)
 | .tree n z t, i, v => .tree n z (if i < n then t.put i (some v) else t)
 | .str l, i, v => .str (zA l i v)
def plain : Cells → Bool
 | .str _ => false
 | _ => true
def like (c : Cells) (l : List Value) : Cells := if c.plain then .list l else .str l
def take (c : Cells) (off : Nat) : Nat → Option (List Value)
 | 0 => some []
 | n + 1 => match c.get off with
  | none => none
  | some v => match take c (off + 1) n with
   | none => none
   | some l => some (v :: l)
def fillFrom (c : Cells) (off : Nat) : List Value → Cells
 | [] => c
 | v :: l => fillFrom (c.set off v) (off + 1) l
end Cells
inductive LoopSt where
 | ready | busy | done | exhausted
 deriving DecidableEq, Inhabited
structure z6 where
 key : Value
 val : Value
 born : Nat
 deriving Inhabited
inductive DObj where
 | cells (c : Cells) (ro : Bool)
 | map (es : List z6) (clock : Nat)
 | iter (m : Option Nat) (since : Nat) (seen : List Nat) (last : Nat)
 | loop (st : LoopSt) (pending : DExit) (t : PT Value) (params : List Nat) (assign body : DCode)
 | dfr
 deriving Inhabited
structure DS where
 heap : PT DObj
 next : Nat
 vis : Nat → Bool
 wr : Nat → Bool
namespace DS
def get (s : DS) (k : Nat) : Option DObj := if Nat.blt k s.next && s.vis k then s.heap.get k else none
def set (s : DS) (k : Nat) (o : DObj) : Option DS := if s.wr k then some { s with heap := s.heap.put k (some o) } else none
def kill (s : DS) (k : Nat) : Option DS := if s.wr k then some { s with heap := s.heap.put k none } else none
def new (s : DS) (o : DObj) : DS := { s with heap := s.heap.put s.next (some o), next := s.next + 1 }
def start (h : PT DObj) (n : Nat) : DS := { heap := h, next := n, vis := fun _ => true, wr := fun _ => true }
def write (s : DS) (k off : Nat) (l : List Value) : Option DS :=
 match s.get k with
 | some (.cells c false) => if Nat.ble (off + l.length) c.size then s.set k (.cells (c.fillFrom off l) false) else none
 | _ => none
def read (s : DS) (k off n : Nat) : Option (List Value) :=
 match s.get k with
 | some (.cells c _) => c.take off n
 | _ => none
end DS
def zF : IntKind → Nat
 | .i8 | .u8 => 256
 | .i16 | .u16 => 65536
 | .i32 | .u32 => 4294967296
 | .i64 | .u64 => 18446744073709551616
def Qz : IntKind → Nat
 | .i8 | .u8 => 128
 | .i16 | .u16 => 32768
 | .i32 | .u32 => 2147483648
 | .i64 | .u64 => 9223372036854775808
def Xm : IntKind → Bool
 | .i8 | .i16 | .i32 | .i64 => true
 | _ => false
def bitsOf : IntKind → Nat
 | .i8 | .u8 => 8
 | .i16 | .u16 => 16
 | .i32 | .u32 => 32
 | .i64 | .u64 => 64
def low (k : IntKind) : Int → Nat
 | .ofNat n => n % zF k
 | .negSucc n => zF k - 1 - n % zF k
def zt (k : IntKind) (n : Int) : Int :=
 let m := low k n
 if Xm k then (if Nat.ble (Qz k) m then Int.negSucc (zF k - 1 - m) else Int.ofNat m) else Int.ofNat m
def zm (op : BinOp) (k : IntKind) (a b : Int) : Option Value :=
 match op with
 | .add => some (.int k (zt k (a + b)))
 | .sub => some (.int k (zt k (a - b)))
 | .mul => some (.int k (zt k (a * b)))
 | .quo => if b = 0 then none else some (.int k (zt k (a.tdiv b)))
 | .rem => if b = 0 then none else some (.int k (a.tmod b))
 | .and => some (.int k (zt k (Int.ofNat (low k a &&& low k b))))
 | .or => some (.int k (zt k (Int.ofNat (low k a ||| low k b))))
 | .xor => some (.int k (zt k (Int.ofNat (low k a ^^^ low k b))))
 | .andNot => some (.int k (zt k (Int.ofNat (low k a &&& (zF k - 1 - low k b)))))
 | .eql => some (.bool (decide (a = b)))
 | .neq => some (.bool (!decide (a = b)))
 | .lss => some (.bool (decide (a < b)))
 | .leq => some (.bool (decide (a ≤ b)))
 | .gtr => some (.bool (decide (b < a)))
 | .geq => some (.bool (decide (b ≤ a)))
 | _ => none
def Zr (op : BinOp) (k : IntKind) (a b : Int) : Option Value :=
 if b < 0 then none else
 let n := if Nat.ble (bitsOf k) b.toNat then bitsOf k else b.toNat
 match op with
 | .shl => some (.int k (zt k (a * Int.ofNat (2 ^ n))))
 | .shr => some (.int k (a.fdiv (Int.ofNat (2 ^ n))))
 | _ => none
def bytesLess : List UInt8 → List UInt8 → Bool
 | _, [] => false
 | [], _ :: _ => true
 | a :: x, b :: y => Nat.blt a.toNat b.toNat || (Nat.beq a.toNat b.toNat && bytesLess x y)
def Yk : List UInt8 → List UInt8 → Bool
 | [], [] => true
 | a :: x, b :: y => Nat.beq a.toNat b.toNat && Yk x y
 | _, _ => false
def FY (op : BinOp) (a b : ByteArray) : Option Value :=
 let x := a.data.toList
 let y := b.data.toList
 match op with
 | .add => if Nat.ble (x.length + y.length) 1099511627776 then some (.string ⟨⟨x ++ y⟩⟩) else none
 | .eql => some (.bool (Yk x y))
 | .neq => some (.bool (!Yk x y))
 | .lss => some (.bool (bytesLess x y))
 | .leq => some (.bool (bytesLess x y || Yk x y))
 | .gtr => some (.bool (!(bytesLess x y || Yk x y)))
 | .geq => some (.bool (!bytesLess x y))
 | _ => none
def zo (op : BinOp) (x y : Value) : Option Value :=
 match x, y with
 | .int k a, .int k' b =>
  match op with
  | .shl => Zr .shl k a b
  | .shr => Zr .shr k a b
  | _ => if k = k' then zm op k a b else none
 | .string a, .string b => FY op a b
 | _, _ => none
def zH (k : SK) (x y : Value) : Option Bool :=
 match k, x, y with
 | .bool, .bool a, .bool b => some (a == b)
 | .int, .int j a, .int j' b => if j = j' then some (decide (a = b)) else none
 | .str, .string a, .string b => some (Yk a.data.toList b.data.toList)
 | .ptr, .pointer none, .pointer b => some b.isNone
 | .ptr, .pointer (some _), .pointer none => some false
 | .ptr, .pointer (some ⟨i, o, none⟩), .pointer (some ⟨i', o', none⟩) => if i = i' then some (decide (o = o')) else none
 | .slice, .slice none _ _, .slice b _ _ => some b.isNone
 | .slice, .slice (some _) _ _, .slice none _ _ => some false
 | .map, .map none, .map b => some b.isNone
 | .map, .map (some _), .map none => some false
 | .func, .nilFunc, .nilFunc => some true
 | .func, .nilFunc, .func _ _ _ => some false
 | .func, .func _ _ _, .nilFunc => some false
 | _, _, _ => none
def partOf (agg : Option Nat) (cs : List Value) (off : Nat) : Option Value :=
 match agg with
 | none => getN cs off
 | some n => some (.agg ⟨(cs.drop off).take n⟩)
mutual
def Zq : ET → Value → Value → Option Bool
 | .one k, x, y => zH k x y
 | .struct fs, .agg xs, .agg ys => eqFields fs xs.toList ys.toList
 | .arr n size e, .agg xs, .agg ys => ZG e size xs.toList ys.toList n
 | _, _, _ => none
def eqFields : List (Nat × Nat × ET) → List Value → List Value → Option Bool
 | [], _, _ => some true
 | (off, size, .one k) :: fs, xs, ys =>
  match getN xs off, getN ys off with
  | some x, some y => match zH k x y with
   | some true => eqFields fs xs ys
   | r => r
  | _, _ => none
 | (off, size, t) :: fs, xs, ys =>
  match Zq t (.agg ⟨(xs.drop off).take size⟩) (.agg ⟨(ys.drop off).take size⟩) with
  | some true => eqFields fs xs ys
  | r => r
def ZG : ET → Nat → List Value → List Value → Nat → Option Bool
 | _, _, _, _, 0 => some true
 | .one k, size, xs, ys, n + 1 =>
  match xs, ys with
  | x :: xs, y :: ys => match zH k x y with
   | some true => ZG (.one k) size xs ys n
   | r => r
  | _, _ => none
 | t, size, xs, ys, n + 1 =>
  match Zq t (.agg ⟨xs.take size⟩) (.agg ⟨ys.take size⟩) with
  | some true => ZG t size (xs.drop size) (ys.drop size) n
  | r => r
end
mutual
def Ym : Nat → ET → Value → Value → Option Bool
 | 0, _, _, _ => none
 | f + 1, t, x, y => match t with
  | .one k => zH k x y
  | .struct fs => match x, y with
   | .agg xs, .agg ys => ZP f fs xs.toList ys.toList
   | _, _ => none
  | .arr n size e => match x, y with
   | .agg xs, .agg ys => YA f e size xs.toList ys.toList n
   | _, _ => none
def ZP : Nat → List (Nat × Nat × ET) → List Value → List Value → Option Bool
 | 0, _, _, _ => none
 | f + 1, l, xs, ys => match l with
  | [] => some true
  | (off, size, t) :: fs => match t with
   | .one k => match getN xs off, getN ys off with
    | some x, some y => match zH k x y with
     | some true => ZP f fs xs ys
     | r => r
    | _, _ => none
   | t => match Ym f t (.agg ⟨(xs.drop off).take size⟩) (.agg ⟨(ys.drop off).take size⟩) with
    | some true => ZP f fs xs ys
    | r => r
def YA : Nat → ET → Nat → List Value → List Value → Nat → Option Bool
 | 0, _, _, _, _, _ => none
 | f + 1, t, size, xs, ys, n => match n with
  | 0 => some true
  | n + 1 => match t with
   | .one k => match xs, ys with
    | x :: xs, y :: ys => match zH k x y with
     | some true => YA f (.one k) size xs ys n
     | r => r
    | _, _ => none
   | t => match Ym f t (.agg ⟨xs.take size⟩) (.agg ⟨ys.take size⟩) with
    | some true => YA f t size (xs.drop size) (ys.drop size) n
    | r => r
end
theorem R6 : ∀ f : Nat, (∀ t x y b, Ym f t x y = some b → Zq t x y = some b) ∧ (∀ l xs ys b, ZP f l xs ys = some b → eqFields l xs ys = some b) ∧
 (∀ t size xs ys n b, YA f t size xs ys n = some b → ZG t size xs ys n = some b) := by
 intro f
 induction f with
 | zero => exact ⟨fun _ _ _ _ h => by simp [Ym] at h, fun _ _ _ _ h => by simp [ZP] at h, fun _ _ _ _ _ _ h => by simp [YA] at h⟩
 | succ f ih =>
  obtain ⟨i1, i2, i3⟩ := ih
  refine ⟨?_, ?_, ?_⟩
  · intro t x y b h
    cases t with
    | one k => simpa [Ym, Zq] using h
    | struct fs =>
     simp only [Ym] at h
     split at h
     · rw [Zq]; exact i2 _ _ _ _ h
     · cases h
    | arr n size e =>
     simp only [Ym] at h
     split at h
     · rw [Zq]; exact i3 _ _ _ _ _ _ h
     · cases h
  · intro l xs ys b h
    cases l with
    | nil => simpa [ZP, eqFields] using h
    | cons hd fs =>
     obtain ⟨off, size, t⟩ := hd
     cases t with
     | one k =>
      simp only [ZP] at h
      rw [eqFields]
      split at h
      · rename_i x y hx hy
        split at h
        · exact i2 _ _ _ _ h
        · exact h
      · cases h
     | struct l2 =>
      simp only [ZP] at h
      rw [eqFields]
      · split at h
        · rename_i he; rw [i1 _ _ _ _ he]; exact i2 _ _ _ _ h
        · rename_i hne
          cases b with
          | true => exact absurd h hne
          | false => rw [i1 _ _ _ _ h]
      · intro k hk; cases hk
     | arr n s e =>
      simp only [ZP] at h
      rw [eqFields]
      · split at h
        · rename_i he; rw [i1 _ _ _ _ he]; exact i2 _ _ _ _ h
        · rename_i hne
          cases b with
          | true => exact absurd h hne
          | false => rw [i1 _ _ _ _ h]
      · intro k hk; cases hk
  · intro t size xs ys n b h
    cases n with
    | zero => simpa [YA, ZG] using h
    | succ n =>
     cases t with
     | one k =>
      simp only [YA] at h
      cases xs with
      | nil => cases h
      | cons x xs =>
       cases ys with
       | nil => cases h
       | cons y ys =>
        rw [ZG]
        simp only at h
        split at h
        · exact i3 _ _ _ _ _ _ h
        · exact h
     | struct l2 =>
      simp only [YA] at h
      rw [ZG]
      · split at h
        · rename_i he; rw [i1 _ _ _ _ he]; exact i3 _ _ _ _ _ _ h
        · rename_i hne
          cases b with
          | true => exact absurd h hne
          | false => rw [i1 _ _ _ _ h]
      · intro k hk; cases hk
     | arr m s e =>
      simp only [YA] at h
      rw [ZG]
      · split at h
        · rename_i he; rw [i1 _ _ _ _ he]; exact i3 _ _ _ _ _ _ h
        · rename_i hne
          cases b with
          | true => exact absurd h hne
          | false => rw [i1 _ _ _ _ h]
      · intro k hk; cases hk
def zU : Value → Option Nat
 | .int _ (.ofNat n) => some n
 | _ => none
abbrev zv : Value := .tuple #[]
def ev (t : PT Value) : Operand → Value
 | .tmp i => (t.get i).getD zv
 | .const v => v
 | .func f => .func (.func f) #[] #[]
 | .global _ => zv
def zi (ρ : Operand → Value) : List Value → List (Nat × Nat × Operand) → Option (List Value)
 | cs, [] => some cs
 | cs, (off, size, x) :: rest =>
  let vs := (ρ x).cells.toList
  if Nat.beq vs.length size && Nat.ble (off + size) cs.length then zi ρ (cs.take off ++ (vs ++ cs.drop (off + size))) rest else none
def repeatZ (z : List Value) : Nat → List Value
 | 0 => []
 | n + 1 => z ++ repeatZ z n
def zg : Value → Bool
 | .agg _ | .tuple _ => false
 | _ => true
def ZS (len cap : Nat) (lo hi mx : Option Value) : Option (Nat × Nat × Nat) :=
 match (match mx with | some v => (match zU v with | some m => if Nat.ble m cap then some m else none | none => none) | none => some cap) with
 | none => none
 | some m =>
  match (match hi, mx with
   | some v, some _ => (match zU v with | some h => if Nat.ble h m then some h else none | none => none)
   | some v, none => (match zU v with | some h => if Nat.ble h m then some h else none | none => none)
   | none, none => some len
   | none, some _ => none) with
  | none => none
  | some h =>
   match (match lo with | some v => (match zU v with | some l => if Nat.ble l h then some l else none | none => none) | none => some 0) with
   | none => none
   | some l => some (l, h, m)
def YD : List Value → List Value → Option Bool
 | [], [] => some true
 | .int j a :: x, .int k b :: y => if j = k then (if a = b then YD x y else some false) else none
 | _, _ => none
def C6 (q : IntKind) (n : Int) : Bool :=
 match q with
 | .i8 => decide (-128 ≤ n) && decide (n < 128)
 | .i16 => decide (-32768 ≤ n) && decide (n < 32768)
 | .i32 => decide (-2147483648 ≤ n) && decide (n < 2147483648)
 | .i64 => decide (-9223372036854775808 ≤ n) && decide (n < 9223372036854775808)
 | .u8 => decide (0 ≤ n) && decide (n < 256)
 | .u16 => decide (0 ≤ n) && decide (n < 65536)
 | .u32 => decide (0 ≤ n) && decide (n < 4294967296)
 | .u64 => decide (0 ≤ n) && decide (n < 18446744073709551616)
def zP : List IntKind → List Value → Bool
 | [], [] => true
 | q :: ks, .int j n :: r => decide (j = q) && (C6 q n && zP ks r)
 | _, _ => false
def ZO (str : KT) (a b : Value) : Option Bool :=
 match str, a, b with
 | .txt, .string x, .string y => some (Yk x.data.toList y.data.toList)
 | .num, .int k x, .int k' y => if k = k' then some (decide (x = y)) else none
 | .agg _, .agg x, .agg y => YD x.toList y.toList
 | _, _, _ => none
def YU (str : KT) (k : Value) : List z6 → Nat → Option (Option (Nat × z6))
 | [], _ => some none
 | e :: es, i =>
  match ZO str k e.key with
  | some true => some (some (i, e))
  | some false => YU str k es (i + 1)
  | none => none
def setVal : List z6 → Nat → Value → List z6
 | [], _, _ => []
 | e :: es, 0, v => { e with val := v } :: es
 | e :: es, n + 1, v => e :: setVal es n v
def VE : List z6 → Nat → List z6
 | [], _ => []
 | _ :: es, 0 => es
 | e :: es, n + 1 => e :: VE es n
def isKey (str : KT) (v : Value) : Bool :=
 match str, v with
 | .txt, .string _ => true
 | .num, .int _ _ => true
 | .agg ks, .agg a => zP ks a.toList
 | _, _ => false
def zO (l : List Nat) (n : Nat) : Bool :=
 match l with
 | [] => false
 | x :: r => Nat.beq x n || zO r n
def ZU : List Value → Option (List UInt8)
 | [] => some []
 | .int .u8 n :: r => match ZU r with
  | some l => some (UInt8.ofNat n.toNat :: l)
  | none => none
 | _ => none
def ZI (s : DS) (size : Nat) (x : Value) (n : Nat) : Option (List Value) :=
 match x with
 | .slice none _ _ => some []
 | .slice (some ⟨k, off, _⟩) _ _ => s.read k off (n * size)
 | .string b => some ((b.data.toList.take n).map fun c => .int .u8 c.toNat)
 | _ => none
def YX : Value → Option Nat
 | .slice _ n _ => some n
 | .string b => some b.data.toList.length
 | _ => none
def Yd (a : Option Addr) (size l h m : Nat) (cut : Bool) : Option Value :=
 match a with
 | none => some (.slice none (h - l) (m - l))
 | some ⟨k, off, sp⟩ =>
  if cut then some (.slice (some ⟨k, off + l * size, none⟩) (h - l) (m - l)) else
  match sp with
  | none => some (.slice (some ⟨k, off + l * size, none⟩) (h - l) (m - l))
  | some sz => if Nat.beq sz size then some (.slice (some ⟨k, off + l * size, some sz⟩) (h - l) (m - l)) else none
def W8 (acc : Option Value) (v : Value) : Option Value :=
 match acc, v with
 | some (.int k a), .int k' b => if k = k' then some (.int k (if b < a then b else a)) else none
 | _, _ => none
def W9 (acc : Option Value) (v : Value) : Option Value :=
 match acc, v with
 | some (.int k a), .int k' b => if k = k' then some (.int k (if a < b then b else a)) else none
 | _, _ => none
def zb (ρ : Operand → Value) : DOp → Option Value
 | .mv x => some (ρ x)
 | .pick c a b => match ρ c with | .bool t => some (if t then ρ a else ρ b) | _ => none
 | .bin op x y => zo op (ρ x) (ρ y)
 | .eq neg t x y => match Ym 5000 t (ρ x) (ρ y) with | some b => some (.bool (if neg then !b else b)) | none => none
 | .un op x =>
  match op, ρ x with
  | .neg, .int k n => some (.int k (zt k (0 - n)))
  | .xor, .int k n => zm .xor k (if Xm k then -1 else Int.ofNat (zF k - 1)) n
  | .not, .bool b => some (.bool (!b))
  | _, _ => none
 | .cvInt k x => match ρ x with | .int _ n => some (.int k (zt k n)) | _ => none
 | .cvStr x => match ρ x with | .string s => some (.string s) | _ => none
 | .nilck x =>
  match ρ x with
  | .pointer (some a) => some (.pointer (some a))
  | .func (.func f) a b => some (.func (.func f) a b)
  | .func (.yield l) a b => some (.func (.yield l) a b)
  | _ => none
 | .build z parts => match zi ρ z parts with | some cs => some (.agg ⟨cs⟩) | none => none
 | .mkf f first captured => some (.func (.func f) ⟨first.map ρ⟩ ⟨captured.map ρ⟩)
 | .slS x lo hi =>
  match ρ x with
  | .string s => match ZS s.data.toList.length s.data.toList.length (lo.map ρ) (hi.map ρ) none with
   | some (l, h, _) => some (.string ⟨⟨(s.data.toList.drop l).take (h - l)⟩⟩)
   | none => none
  | _ => none
 | .slL size x lo hi mx =>
  match ρ x with
  | .slice a len cap => match ZS len cap (lo.map ρ) (hi.map ρ) (mx.map ρ) with
   | some (l, h, m) => Yd a size l h m mx.isSome
   | none => none
  | _ => none
 | .slA n size x lo hi mx =>
  match ρ x with
  | .pointer (some ⟨k, off, none⟩) => match ZS n n (lo.map ρ) (hi.map ρ) (mx.map ρ) with
   | some (l, h, m) => Yd (some ⟨k, off, none⟩) size l h m true
   | none => none
  | _ => none
 | .s2a n x =>
  match ρ x with
  | .slice (some ⟨k, o, _⟩) len _ => if Nat.blt 0 n && Nat.ble n len then some (.pointer (some ⟨k, o, none⟩)) else none
  | _ => none
 | .fadr off x => match ρ x with | .pointer (some ⟨k, o, none⟩) => some (.pointer (some ⟨k, o + off, none⟩)) | _ => none
 | .fld off agg x => match ρ x with | .agg cs => partOf agg cs.toList off | _ => none
 | .ixA n size x i =>
  match ρ x, zU (ρ i) with
  | .pointer (some ⟨k, o, none⟩), some j => if Nat.blt j n then some (.pointer (some ⟨k, o + j * size, none⟩)) else none
  | _, _ => none
 | .ixL size x i =>
  match ρ x, zU (ρ i) with
  | .slice (some ⟨k, o, _⟩) len _, some j => if Nat.blt j len then some (.pointer (some ⟨k, o + j * size, none⟩)) else none
  | _, _ => none
 | .idxA n size agg x i =>
  match ρ x, zU (ρ i) with
  | .agg cs, some j => if Nat.blt j n then partOf agg cs.toList (j * size) else none
  | _, _ => none
 | .idxS x i =>
  match ρ x, zU (ρ i) with
  | .string s, some j => match s.data.toList.drop j with
   | c :: _ => some (.int .u8 c.toNat)
   | [] => none
  | _, _ => none
 | .ext x i => match ρ x with | .tuple vs => getN vs.toList i | _ => none
 | .blenS x => match ρ x with | .string s => some (.int .i64 s.data.toList.length) | _ => none
 | .blenL x => match ρ x with | .slice _ n _ => some (.int .i64 n) | _ => none
 | .bcapL x => match ρ x with | .slice none _ c => some (.int .i64 c) | .slice (some ⟨_, _, none⟩) _ c => some (.int .i64 c) | _ => none
 | .blenA n => some (.int .i64 n)
 | .bmin xs => match xs.map ρ with
  | .int k a :: r => r.foldl W8 (some (.int k a))
  | _ => none
 | .bmax xs => match xs.map ρ with
  | .int k a :: r => r.foldl W9 (some (.int k a))
  | _ => none
 | _ => none
def zk (ρ : Operand → Value) (s : DS) : DOp → Option Value
 | .ld agg a =>
  match ρ a with
  | .pointer (some ⟨k, off, none⟩) =>
   match agg with
   | none => match s.get k with
    | some (.cells c _) => c.get off
    | _ => none
   | some n => match s.read k off n with
    | some l => some (.agg ⟨l⟩)
    | none => none
  | _ => none
 | .cvToStr x =>
  match ρ x with
  | .slice none _ _ => some (.string ⟨⟨[]⟩⟩)
  | .slice (some ⟨k, off, _⟩) len _ => match s.read k off len with
   | some l => match ZU l with
    | some b => some (.string ⟨⟨b⟩⟩)
    | none => none
   | none => none
  | _ => none
 | .look str z ok m k =>
  match (match ρ m with
   | .map none => if isKey str (ρ k) then some none else none
   | .map (some r) => match s.get r with
    | some (.map es _) => if isKey str (ρ k) then YU str (ρ k) es 0 else none
    | _ => none
   | _ => none) with
  | none => none
  | some none => some (if ok then .tuple #[z, .bool false] else z)
  | some (some (_, e)) => some (if ok then .tuple #[e.val, .bool true] else e.val)
 | .blenM x =>
  match ρ x with
  | .map none => some (.int .i64 0)
  | .map (some r) => match s.get r with
   | some (.map es _) => some (.int .i64 es.length)
   | _ => none
  | _ => none
 | .ent it =>
  match ρ it with
  | .pointer (some ⟨r, 0, none⟩) => match s.get r with
   | some (.iter (some m) _ seen stepped) => match seen, s.get m with
    | stamp :: _, some (.map es clock) =>
     if Nat.beq clock stepped then (match es.find? (fun e => Nat.beq e.born stamp) with
      | some e => some (.tuple #[e.key, e.val])
      | none => none) else none
    | _, _ => none
   | _ => none
  | _ => none
 | _ => none
def zL (ρ : Operand → Value) (s : DS) : DOp → Option (Value × DS)
 | .alloc z => some (.pointer (some ⟨s.next, 0, none⟩), s.new (.cells (.list z) false))
 | .box x => some (.pointer (some ⟨s.next, 0, none⟩), s.new (.cells (.list (ρ x).cells.toList) false))
 | .bslice n size z parts =>
  if Nat.ble (n * size) 1048576 then
   match zi ρ (repeatZ z n) parts with
   | some cs => some (.slice (some ⟨s.next, 0, none⟩) n n, s.new (.cells (.list cs) false))
   | none => none
  else none
 | .mkmap r =>
  match (match r with | none => true | some x => (match ρ x with | .int _ _ => true | _ => false)) with
  | true => some (.map (some s.next), s.new (.map [] 0))
  | false => none
 | .mkslice bytes z l c =>
  match zU (ρ l), zU (ρ c) with
  | some l, some c =>
   if Nat.ble l c && Nat.ble c 1099511627776 && Nat.ble (c * bytes) 1099511627776 then
    some (.slice (some ⟨s.next, 0, none⟩) l c, s.new (.cells (match z with | [v] => if Nat.blt 32 c then .tree c v .nil else .list (repeatZ z c) | _ => .list (repeatZ z c)) false))
   else none
  | _, _ => none
 | .cvToBytes x =>
  match ρ x with
  | .string b =>
   if Nat.ble b.data.toList.length 1099511627776 then
    some (.slice (some ⟨s.next, 0, some 1⟩) b.data.toList.length b.data.toList.length, s.new (.cells (.str (b.data.toList.map fun c => .int .u8 c.toNat)) false))
   else none
  | _ => none
 | .rng x =>
  match ρ x with
  | .map none => some (.pointer (some ⟨s.next, 0, none⟩), s.new (.iter none 0 [] 0))
  | .map (some m) => match s.get m with
   | some (.map _ clock) => some (.pointer (some ⟨s.next, 0, none⟩), s.new (.iter (some m) clock [] clock))
   | _ => none
  | _ => none
 | _ => none
def zh : List Value → Bool
 | [] => true
 | v :: l => zg v && zh l
def zl (ρ : Operand → Value) (s : DS) : DOp → Option (Value × DS)
 | .st size a x =>
  match ρ a with
  | .pointer (some ⟨k, off, none⟩) =>
   let cs := (ρ x).cells.toList
   if Nat.beq cs.length size && zh cs then
    match s.write k off cs with
    | some s' => some (zv, s')
    | none => none
   else none
  | _ => none
 | .mupd str m k x =>
  match ρ m with
  | .map (some r) => match s.get r with
   | some (.map es clock) =>
    if isKey str (ρ k) then
     match YU str (ρ k) es 0 with
     | some (some (i, _)) => match s.set r (.map (setVal es i (ρ x)) clock) with
      | some s' => some (zv, s')
      | none => none
     | some none => match s.set r (.map (es ++ [{ key := ρ k, val := ρ x, born := clock }]) (clock + 1)) with
      | some s' => some (zv, s')
      | none => none
     | none => none
    else none
   | _ => none
  | _ => none
 | .ment str z m k =>
  match ρ m with
  | .map (some r) => match s.get r with
   | some (.map es clock) =>
    if isKey str (ρ k) then
     match YU str (ρ k) es 0 with
     | some (some (_, e)) => match s.set r (.map es clock) with
      | some s' => some (.tuple #[e.val, .int .i64 e.born], s')
      | none => none
     | some none => match s.set r (.map (es ++ [{ key := ρ k, val := z, born := clock }]) (clock + 1)) with
      | some s' => some (.tuple #[z, .int .i64 clock], s')
      | none => none
     | none => none
    else none
   | _ => none
  | _ => none
 | .estore m b x =>
  match ρ m, zU (ρ b) with
  | .map (some r), some born => match s.get r with
   | some (.map es clock) =>
    match es.findIdx? (fun e => Nat.beq e.born born) with
    | some i => match s.set r (.map (setVal es i (ρ x)) clock) with
     | some s' => some (zv, s')
     | none => none
    | none => none
   | _ => none
  | _, _ => none
 | .nxt it =>
  match ρ it with
  | .pointer (some ⟨r, 0, none⟩) => match s.get r with
   | some (.iter none _ _ _) => some (.tuple #[.bool false], s)
   | some (.iter (some m) since seen last) => match s.get m with
    | some (.map es clock) =>
     if !seen.isEmpty && !es.isEmpty && es.all (fun e => Nat.ble last e.born) then none else
     match es.filter (fun e => !zO seen e.born) with
     | [] => some (.tuple #[.bool false], s)
     | [e] => if Nat.blt e.born since then (match s.set r (.iter (some m) since (e.born :: seen) clock) with
      | some s' => some (.tuple #[.bool true, e.key, e.val], s')
      | none => none) else none
     | _ => none
    | _ => none
   | _ => none
  | _ => none
 | .bapp bytes size x y =>
  match ρ x, YX (ρ y) with
  | .slice base len cap, some n =>
   match ZI s size (ρ y) n with
   | none => none
   | some new =>
    if !(Nat.beq new.length (n * size) && zh new) then none else
    if Nat.ble (len + n) cap then
     match base with
     | none => if Nat.beq n 0 then some (.slice none (len + n) cap, s) else none
     | some ⟨k, off, sp⟩ =>
      if Nat.beq n 0 then some (.slice (some ⟨k, off, sp⟩) (len + n) cap, s) else
      match s.write k (off + len * size) new with
      | some s' => some (.slice (some ⟨k, off, sp⟩) (len + n) cap, s')
      | none => none
    else if Nat.ble (len + n) 1099511627776 && Nat.ble ((len + n) * bytes) 1099511627776 then
     match base with
     | none => if Nat.beq len 0 then some (.slice (some ⟨s.next, 0, some size⟩) n n, s.new (.cells (.list new) false)) else none
     | some ⟨k, off, none⟩ =>
      match s.read k off (len * size) with
      | some old => if zh old then some (.slice (some ⟨s.next, 0, some size⟩) (len + n) (len + n), s.new (.cells (.list (old ++ new)) false)) else none
      | none => none
     | some ⟨k, off, some sz⟩ =>
      if Nat.beq sz size then
       match s.get k with
       | some (.cells c false) => match c.take off (len * size), s.kill k with
        | some old, some s' => if zh old then some (.slice (some ⟨s'.next, 0, some size⟩) (len + n) (len + n), s'.new (.cells (c.like (old ++ new)) false)) else none
        | _, _ => none
       | _ => none
      else none
    else none
  | _, _ => none
 | .bcopy size d x =>
  match ρ d, YX (ρ x) with
  | .slice base len _, some m =>
   let n := if Nat.ble m len then m else len
   match ZI s size (ρ x) n with
   | none => none
   | some new =>
    if !(Nat.beq new.length (n * size) && zh new) then none else
    match base with
    | none => some (.int .i64 n, s)
    | some ⟨k, off, _⟩ =>
     if Nat.beq n 0 then some (.int .i64 n, s) else
     match s.write k off new with
     | some s' => some (.int .i64 n, s')
     | none => none
  | _, _ => none
 | .bdel str m k =>
  match ρ m with
  | .map (some r) => match s.get r with
   | some (.map es clock) =>
    if isKey str (ρ k) then
     match YU str (ρ k) es 0 with
     | some (some (i, _)) => match s.set r (.map (VE es i) clock) with
      | some s' => some (zv, s')
      | none => none
     | some none => match s.set r (.map es clock) with
      | some s' => some (zv, s')
      | none => none
     | none => none
    else none
   | _ => none
  | _ => none
 | .bclrM m =>
  match ρ m with
  | .map none => some (zv, s)
  | .map (some r) => match s.get r with
   | some (.map _ clock) => match s.set r (.map [] clock) with
    | some s' => some (zv, s')
    | none => none
   | _ => none
  | _ => none
 | .bappZ bytes z x y =>
  match ρ x, zU (ρ y) with
  | .slice none 0 0, some n =>
   if Nat.blt 0 n && Nat.ble n 1099511627776 && Nat.ble (n * bytes) 1099511627776 then
    some (.slice (some ⟨s.next, 0, some z.length⟩) n n, s.new (.cells (.list (repeatZ z n)) false))
   else none
  | .slice (some ⟨k, off, some sz⟩) len cap, some n =>
   if Nat.beq n 0 then (if Nat.ble len cap then some (.slice (some ⟨k, off, some sz⟩) len cap, s) else none)
   else if !Nat.ble (len + n) cap && Nat.beq sz z.length && zh (repeatZ z n) && Nat.ble (len + n) 1099511627776 && Nat.ble ((len + n) * bytes) 1099511627776 then
    match s.get k with
    | some (.cells c false) => match c.take off (len * z.length), s.kill k with
     | some old, some s' => if zh old then some (.slice (some ⟨s'.next, 0, some z.length⟩) (len + n) (len + n), s'.new (.cells (c.like (old ++ repeatZ z n)) false)) else none
     | _, _ => none
    | _ => none
   else none
  | _, _ => none
 | .cvB x =>
  match ρ x with
  | .slice (some ⟨k, off, sp⟩) len cap =>
   if Nat.blt 0 cap then
    match s.get k with
    | some (.cells (.list (c :: l)) false) => match s.set k (.cells (.str (c :: l)) false) with
     | some s' => some (.slice (some ⟨k, off, sp⟩) len cap, s')
     | none => none
    | _ => none
   else none
  | _ => none
 | .bclrL z x =>
  match ρ x with
  | .slice base len _ =>
   if Nat.beq len 0 then some (zv, s) else
   match base with
   | none => some (zv, s)
   | some ⟨k, off, _⟩ =>
    if zh (repeatZ z len) then
     match s.write k off (repeatZ z len) with
     | some s' => some (zv, s')
     | none => none
    else none
  | _ => none
 | _ => none
inductive Class where
 | pure | read | make | write | call | bad
 deriving DecidableEq, Inhabited
def DOp.cls : DOp → Class
 | .ld .. | .cvToStr _ | .look .. | .blenM _ | .ent _ => .read
 | .alloc _ | .box _ | .bslice .. | .mkmap _ | .mkslice .. | .cvToBytes _ | .rng _ => .make
 | .st .. | .mupd .. | .ment .. | .estore .. | .nxt _ | .bapp .. | .bcopy .. | .bdel .. | .bclrM _ | .bclrL .. | .bappZ .. | .cvB _ => .write
 | .call .. => .call
 | .bad => .bad
 | _ => .pure
def foot (ρ : Operand → Value) (s : DS) : DOp → List Nat
 | .ld _ a => match ρ a with | .pointer (some a) => [a.block] | _ => []
 | .cvToStr x => match ρ x with | .slice (some a) _ _ => [a.block] | _ => []
 | .look _ _ _ m _ => match ρ m with | .map (some r) => [r] | _ => []
 | .blenM x => match ρ x with | .map (some r) => [r] | _ => []
 | .ent it => match ρ it with
  | .pointer (some a) => match s.get a.block with
   | some (.iter (some m) _ _ _) => [a.block, m]
   | _ => [a.block]
  | _ => []
 | .rng x => match ρ x with | .map (some r) => [r] | _ => []
 | _ => []
abbrev zn := Value → List Value → DS → Option (Value × DS)
def dop (call : zn) (ρ : Operand → Value) (s : DS) (o : DOp) : Option (Value × DS) :=
 match o.cls with
 | .pure => match zb ρ o with | some v => some (v, s) | none => none
 | .read => match zk ρ s o with | some v => some (v, s) | none => none
 | .make => zL ρ s o
 | .write => zl ρ s o
 | .call => match o with
  | .call f args => call (ρ f) (args.map ρ) s
  | _ => none
 | .bad => none
structure Zw where
 foot : List Nat
 lo : Nat
 hi : Nat
 deriving Inhabited
def ZJ (t : PT Value) (dst : Option Nat) (v : Value) : PT Value :=
 match dst with
 | some d => t.put d (some v)
 | none => t
def zE (t : PT Value) : Option (Nat × Bool) → Bool
 | none => true
 | some (g, want) => match t.get g with
  | some (.bool b) => b == want
  | _ => false
def noteAt : List Zw → Nat → Zw
 | [], _ => ⟨[], 0, 0⟩
 | x :: _, 0 => x
 | _ :: l, n + 1 => noteAt l n
def hidden (notes : List Zw) : List Nat → Nat → Bool
 | [], _ => false
 | i :: r, k => (let n := noteAt notes i; Nat.ble n.lo k && Nat.blt k n.hi) || hidden notes r k
def shielded (notes : List Zw) : List Nat → Nat → Bool
 | [], _ => false
 | i :: r, k => zO (noteAt notes i).foot k || shielded notes r k
def Z0 (call : zn) : List zK → List Zw → PT Value → DS → Option (PT Value × DS)
 | [], _, t, s => some (t, s)
 | o :: rest, notes, t, s =>
  if zE t o.guard then
   match o.haz with
   | [] =>
    match dop call (ev t) s o.op with
    | some (v, s') => Z0 call rest (if o.note then notes ++ [⟨foot (ev t) s o.op, s.next, s'.next⟩] else notes) (ZJ t o.dst v) s'
    | none => none
   | haz =>
    match dop call (ev t) { s with vis := fun k => s.vis k && !hidden notes haz k, wr := fun k => s.wr k && !hidden notes haz k && !shielded notes haz k } o.op with
    | some (v, s') => Z0 call rest (if o.note then notes ++ [⟨foot (ev t) s o.op, s.next, s'.next⟩] else notes) (ZJ t o.dst v) { s' with vis := s.vis, wr := s.wr }
    | none => none
  else Z0 call rest (if o.note then notes ++ [⟨[], s.next, s.next⟩] else notes) (ZJ t o.dst zv) s
structure St where
 t : PT Value
 s : DS
 defers : List Nat
def Xt (body : St → Option (DExit × St)) : Nat → St → Option (DExit × St)
 | 0, _ => none
 | n + 1, x => match body x with
  | some (.normal, y) => Xt body n y
  | r => r
def zw (call : zn) (lf : Nat) (inRound : Bool) : DCode → St → Option (DExit × St)
 | .skip, x => some (.normal, x)
 | .ret, x => some (.ret, x)
 | .exit id, x => some (.exit id, x)
 | .region ops, x => match Z0 call ops [] x.t x.s with
  | some (t, s) => some (.normal, { x with t, s })
  | none => none
 | .seq a b, x => match zw call lf inRound a x with
  | some (.normal, y) => zw call lf inRound b y
  | r => r
 | .cond c a b, x => match ev x.t c with
  | .bool true => zw call lf inRound a x
  | .bool false => zw call lf inRound b x
  | _ => none
 | .block id b, x => match zw call lf inRound b x with
  | some (.exit j, y) => if j = id then some (.normal, y) else some (.exit j, y)
  | r => r
 | .loop b, x => Xt (zw call lf inRound b) lf x
 | .rangeFunc f params assign body, x =>
  if inRound then none else
  match ev x.t f with
  | .func (.func _) _ _ =>
   let s1 := x.s.new .dfr
   let s2 := s1.new (.loop .ready .normal x.t params assign body)
   match call (ev x.t f) [.func (.yield s1.next) #[] #[]] s2 with
   | some (_, s3) => match s3.get s1.next with
    | some (.loop st pending t ps a b) =>
     if st = .ready ∨ st = .done then
      match s3.set s1.next (.loop .exhausted pending t ps a b) with
      | some s4 => some (pending, { x with s := s4, defers := x.s.next :: x.defers })
      | none => none
     else none
    | _ => none
   | none => none
  | _ => none
 | .bad, _ => none
def WE (args : List Value) : PT Value := PT.ofList args
def za (t : PT Value) (s : DS) : List DRes → Option (List Value)
 | [] => some []
 | .tmp i :: r => match za t s r with | some l => some ((t.get i).getD zv :: l) | none => none
 | .cell a agg :: r => match zk (ev t) s (.ld agg (.tmp a)), za t s r with | some v, some l => some (v :: l) | _, _ => none
def ze : List Value → Value
 | [v] => v
 | vs => .tuple ⟨vs⟩
def Zb (s : DS) : List Nat → Option DS
 | [] => some s
 | k :: r => match s.get k with
  | some .dfr => match s.kill k with | some s' => Zb s' r | none => none
  | _ => none
structure Env where
 fn : Nat → Option zf
 intr : Nat → Option (List Value → DS → Option (Value × DS))
 lf : Nat
def Zl (t : PT Value) : List Nat → List Value → PT Value
 | p :: ps, v :: vs => Zl (t.put p (some v)) ps vs
 | _, _ => t
def dcall (E : Env) : Nat → zn
 | 0, _, _, _ => none
 | d + 1, f, args, s =>
  match f with
  | .func (.func g) first captured =>
   let all := first.toList ++ (args ++ captured.toList)
   match (match E.intr g with | some F => F all s | none => none) with
   | some r => some r
   | none => match E.fn g with
    | none => none
    | some fn =>
     if Nat.ble all.length fn.ntmps then
      match zw (dcall E d) E.lf false fn.body ⟨WE all, s, []⟩ with
      | some (.exit _, _) => none
      | some (_, x) => match Zb x.s x.defers with
       | some s' => match za x.t s' fn.results with
        | some vs => some (ze vs, s')
        | none => none
       | none => none
      | none => none
     else none
  | .func (.yield l) _ _ =>
   match s.get l with
   | some (.loop st pending t ps assign body) =>
    if Nat.beq ps.length args.length && decide (st = .ready) then
     match zw (dcall E d) E.lf true assign ⟨Zl t ps args, s, []⟩ with
     | some (.normal, x) => match x.s.get l with
      | some (.loop .ready pending2 t2 ps2 a2 b2) => match x.s.set l (.loop .busy pending2 t2 ps2 a2 b2) with
       | some s1 => match zw (dcall E d) E.lf true body { x with s := s1 } with
        | some (e, y) => match y.s.get l with
         | some (.loop .busy _ t3 ps3 a3 b3) =>
          match y.s.set l (.loop (if e = .normal then .ready else .done) e t3 ps3 a3 b3) with
          | some s2 => some (.bool (decide (e = .normal)), s2)
          | none => none
         | _ => none
        | none => none
       | none => none
      | _ => none
     | _ => none
    else none
   | _ => none
  | _ => none
end Go.Dx
