/- A part. -/
import Derived.Test.YtpfkbiaikfbpeaaGreatDxSym
import Derived.Test.YtpfkbiaikfbpeaaGreatDxSorted
import Derived.Test.YtpfkbiaikfbpeaaGreatDxX4
import Derived.KernelRfl
set_option linter.unusedVariables false
set_option linter.unusedSimpArgs false
set_option linter.unusedSectionVars false
set_option maxRecDepth 100000
namespace Go.Dx
open Go
def Wb : zp := { ntmps := 17, results := [.tmp 4], body := .seq (.region [⟨some 4, .mv (.const (.int .u32 0)), none, [], false⟩]) (.seq (.region [⟨some 6, .mv (.tmp 1), none, [], false⟩, ⟨some 7, .cvInt .u64 (.tmp 6), none, [], false⟩, ⟨some 8, .bin .and (.tmp 7) (.const (.int .u64 31)), none, [], false⟩, ⟨some 5, .mv (.tmp 8), none, [], false⟩]) (.seq (.region [⟨some 9, .mv (.tmp 0), none, [], false⟩, ⟨some 10, .mv (.tmp 5), none, [], false⟩, ⟨some 11, .bin .shl (.tmp 9) (.tmp 10), none, [], false⟩, ⟨some 12, .mv (.tmp 0), none, [], false⟩, ⟨some 13, .mv (.tmp 5), none, [], false⟩, ⟨some 14, .bin .sub (.const (.int .u64 32)) (.tmp 13), none, [], false⟩, ⟨some 15, .bin .shr (.tmp 12) (.tmp 14), none, [], false⟩, ⟨some 16, .bin .or (.tmp 11) (.tmp 15), none, [], false⟩, ⟨some 4, .mv (.tmp 16), none, [], false⟩]) (.ret))) }
def YR (r : Nat) : zp := { ntmps := 134, results := [], body := .seq (.region [⟨some 14, .mv (.tmp 0), none, [], false⟩, ⟨some 15, .mv (.tmp 1), none, [], false⟩, ⟨some 16, .nilck (.tmp 14), none, [], false⟩, ⟨some 17, .ixA 16 1 (.tmp 16) (.tmp 15), none, [], false⟩, ⟨some 18, .ld none (.tmp 17), none, [], false⟩, ⟨some 19, .mv (.tmp 0), none, [], false⟩, ⟨some 20, .mv (.tmp 2), none, [], false⟩, ⟨some 21, .nilck (.tmp 19), none, [], false⟩, ⟨some 22, .ixA 16 1 (.tmp 21) (.tmp 20), none, [], false⟩, ⟨some 23, .ld none (.tmp 22), none, [], false⟩, ⟨some 24, .mv (.tmp 5), none, [], false⟩, ⟨some 25, .bin .add (.tmp 23) (.tmp 24), none, [], false⟩, ⟨some 26, .bin .add (.tmp 18) (.tmp 25), none, [], false⟩, ⟨some 27, .nilck (.tmp 14), none, [], false⟩, ⟨some 28, .ixA 16 1 (.tmp 27) (.tmp 15), none, [], false⟩, ⟨none, .st 1 (.tmp 28) (.tmp 26), none, [], false⟩]) (.seq (.region [⟨some 29, .mv (.tmp 0), none, [], false⟩, ⟨some 30, .mv (.tmp 4), none, [], false⟩, ⟨some 31, .mv (.tmp 0), none, [], false⟩, ⟨some 32, .mv (.tmp 4), none, [], false⟩, ⟨some 33, .nilck (.tmp 31), none, [], false⟩, ⟨some 34, .ixA 16 1 (.tmp 33) (.tmp 32), none, [], false⟩, ⟨some 35, .ld none (.tmp 34), none, [], false⟩, ⟨some 36, .mv (.tmp 0), none, [], false⟩, ⟨some 37, .mv (.tmp 1), none, [], false⟩, ⟨some 38, .nilck (.tmp 36), none, [], false⟩, ⟨some 39, .ixA 16 1 (.tmp 38) (.tmp 37), none, [], false⟩, ⟨some 40, .ld none (.tmp 39), none, [], false⟩, ⟨some 41, .bin .xor (.tmp 35) (.tmp 40), none, [], false⟩, ⟨some 43, .nilck (.tmp 29), none, [], false⟩, ⟨some 42, .call (.func r) [.tmp 41, .const (.int .i64 (-16))], none, [], false⟩, ⟨some 44, .ixA 16 1 (.tmp 43) (.tmp 30), none, [], false⟩, ⟨none, .st 1 (.tmp 44) (.tmp 42), none, [], false⟩]) (.seq (.region [⟨some 45, .mv (.tmp 0), none, [], false⟩, ⟨some 46, .mv (.tmp 3), none, [], false⟩, ⟨some 47, .nilck (.tmp 45), none, [], false⟩, ⟨some 48, .ixA 16 1 (.tmp 47) (.tmp 46), none, [], false⟩, ⟨some 49, .ld none (.tmp 48), none, [], false⟩, ⟨some 50, .mv (.tmp 0), none, [], false⟩, ⟨some 51, .mv (.tmp 4), none, [], false⟩, ⟨some 52, .nilck (.tmp 50), none, [], false⟩, ⟨some 53, .ixA 16 1 (.tmp 52) (.tmp 51), none, [], false⟩, ⟨some 54, .ld none (.tmp 53), none, [], false⟩, ⟨some 55, .bin .add (.tmp 49) (.tmp 54), none, [], false⟩, ⟨some 56, .nilck (.tmp 45), none, [], false⟩, ⟨some 57, .ixA 16 1 (.tmp 56) (.tmp 46), none, [], false⟩, ⟨none, .st 1 (.tmp 57) (.tmp 55), none, [], false⟩]) (.seq (.region [⟨some 58, .mv (.tmp 0), none, [], false⟩, ⟨some 59, .mv (.tmp 2), none, [], false⟩, ⟨some 60, .mv (.tmp 0), none, [], false⟩, ⟨some 61, .mv (.tmp 2), none, [], false⟩, ⟨some 62, .nilck (.tmp 60), none, [], false⟩, ⟨some 63, .ixA 16 1 (.tmp 62) (.tmp 61), none, [], false⟩, ⟨some 64, .ld none (.tmp 63), none, [], false⟩, ⟨some 65, .mv (.tmp 0), none, [], false⟩, ⟨some 66, .mv (.tmp 3), none, [], false⟩, ⟨some 67, .nilck (.tmp 65), none, [], false⟩, ⟨some 68, .ixA 16 1 (.tmp 67) (.tmp 66), none, [], false⟩, ⟨some 69, .ld none (.tmp 68), none, [], false⟩, ⟨some 70, .bin .xor (.tmp 64) (.tmp 69), none, [], false⟩, ⟨some 72, .nilck (.tmp 58), none, [], false⟩, ⟨some 71, .call (.func r) [.tmp 70, .const (.int .i64 (-12))], none, [], false⟩, ⟨some 73, .ixA 16 1 (.tmp 72) (.tmp 59), none, [], false⟩, ⟨none, .st 1 (.tmp 73) (.tmp 71), none, [], false⟩]) (.seq (.region [⟨some 74, .mv (.tmp 0), none, [], false⟩, ⟨some 75, .mv (.tmp 1), none, [], false⟩, ⟨some 76, .nilck (.tmp 74), none, [], false⟩, ⟨some 77, .ixA 16 1 (.tmp 76) (.tmp 75), none, [], false⟩, ⟨some 78, .ld none (.tmp 77), none, [], false⟩, ⟨some 79, .mv (.tmp 0), none, [], false⟩, ⟨some 80, .mv (.tmp 2), none, [], false⟩, ⟨some 81, .nilck (.tmp 79), none, [], false⟩, ⟨some 82, .ixA 16 1 (.tmp 81) (.tmp 80), none, [], false⟩, ⟨some 83, .ld none (.tmp 82), none, [], false⟩, ⟨some 84, .mv (.tmp 6), none, [], false⟩, ⟨some 85, .bin .add (.tmp 83) (.tmp 84), none, [], false⟩, ⟨some 86, .bin .add (.tmp 78) (.tmp 85), none, [], false⟩, ⟨some 87, .nilck (.tmp 74), none, [], false⟩, ⟨some 88, .ixA 16 1 (.tmp 87) (.tmp 75), none, [], false⟩, ⟨none, .st 1 (.tmp 88) (.tmp 86), none, [], false⟩]) (.seq (.region [⟨some 89, .mv (.tmp 0), none, [], false⟩, ⟨some 90, .mv (.tmp 4), none, [], false⟩, ⟨some 91, .mv (.tmp 0), none, [], false⟩, ⟨some 92, .mv (.tmp 4), none, [], false⟩, ⟨some 93, .nilck (.tmp 91), none, [], false⟩, ⟨some 94, .ixA 16 1 (.tmp 93) (.tmp 92), none, [], false⟩, ⟨some 95, .ld none (.tmp 94), none, [], false⟩, ⟨some 96, .mv (.tmp 0), none, [], false⟩, ⟨some 97, .mv (.tmp 1), none, [], false⟩, ⟨some 98, .nilck (.tmp 96), none, [], false⟩, ⟨some 99, .ixA 16 1 (.tmp 98) (.tmp 97), none, [], false⟩, ⟨some 100, .ld none (.tmp 99), none, [], false⟩, ⟨some 101, .bin .xor (.tmp 95) (.tmp 100), none, [], false⟩, ⟨some 103, .nilck (.tmp 89), none, [], false⟩, ⟨some 102, .call (.func r) [.tmp 101, .const (.int .i64 (-8))], none, [], false⟩, ⟨some 104, .ixA 16 1 (.tmp 103) (.tmp 90), none, [], false⟩, ⟨none, .st 1 (.tmp 104) (.tmp 102), none, [], false⟩]) (.seq (.region [⟨some 105, .mv (.tmp 0), none, [], false⟩, ⟨some 106, .mv (.tmp 3), none, [], false⟩, ⟨some 107, .nilck (.tmp 105), none, [], false⟩, ⟨some 108, .ixA 16 1 (.tmp 107) (.tmp 106), none, [], false⟩, ⟨some 109, .ld none (.tmp 108), none, [], false⟩, ⟨some 110, .mv (.tmp 0), none, [], false⟩, ⟨some 111, .mv (.tmp 4), none, [], false⟩, ⟨some 112, .nilck (.tmp 110), none, [], false⟩, ⟨some 113, .ixA 16 1 (.tmp 112) (.tmp 111), none, [], false⟩, ⟨some 114, .ld none (.tmp 113), none, [], false⟩, ⟨some 115, .bin .add (.tmp 109) (.tmp 114), none, [], false⟩, ⟨some 116, .nilck (.tmp 105), none, [], false⟩, ⟨some 117, .ixA 16 1 (.tmp 116) (.tmp 106), none, [], false⟩, ⟨none, .st 1 (.tmp 117) (.tmp 115), none, [], false⟩]) (.region [⟨some 118, .mv (.tmp 0), none, [], false⟩, ⟨some 119, .mv (.tmp 2), none, [], false⟩, ⟨some 120, .mv (.tmp 0), none, [], false⟩, ⟨some 121, .mv (.tmp 2), none, [], false⟩, ⟨some 122, .nilck (.tmp 120), none, [], false⟩, ⟨some 123, .ixA 16 1 (.tmp 122) (.tmp 121), none, [], false⟩, ⟨some 124, .ld none (.tmp 123), none, [], false⟩, ⟨some 125, .mv (.tmp 0), none, [], false⟩, ⟨some 126, .mv (.tmp 3), none, [], false⟩, ⟨some 127, .nilck (.tmp 125), none, [], false⟩, ⟨some 128, .ixA 16 1 (.tmp 127) (.tmp 126), none, [], false⟩, ⟨some 129, .ld none (.tmp 128), none, [], false⟩, ⟨some 130, .bin .xor (.tmp 124) (.tmp 129), none, [], false⟩, ⟨some 132, .nilck (.tmp 118), none, [], false⟩, ⟨some 131, .call (.func r) [.tmp 130, .const (.int .i64 (-7))], none, [], false⟩, ⟨some 133, .ixA 16 1 (.tmp 132) (.tmp 119), none, [], false⟩, ⟨none, .st 1 (.tmp 133) (.tmp 131), none, [], false⟩]))))))) }
def Qq (a b : Int) : Int := zR .u32 (a + b)
def Wm (a b : Int) : Int := zR .u32 (Int.ofNat (low .u32 a ^^^ low .u32 b))
def QF (n : Nat) (x : Int) : Int := zR .u32 (Int.ofNat (low .u32 (zR .u32 (x * Int.ofNat (2 ^ (32 - n)))) ||| low .u32 (x.fdiv (Int.ofNat (2 ^ n)))))
section
variable {E : Env} {r : Nat} (hr : E.fn r = some Wb) (hir : E.intr r = none)
include hr hir
theorem Mp (x : Int) (s : DS) (d : Nat) : dcall E (d + 1) (.func (.func r) #[] #[]) [.int .u32 x, .int .i64 (-16)] s = some (.int .u32 (QF 16 x), s) := by
 rw [Wz hir hr rfl]
 unfold W2
 kernel_rfl
theorem Mq (x : Int) (s : DS) (d : Nat) : dcall E (d + 1) (.func (.func r) #[] #[]) [.int .u32 x, .int .i64 (-12)] s = some (.int .u32 (QF 12 x), s) := by
 rw [Wz hir hr rfl]
 unfold W2
 kernel_rfl
theorem M4 (x : Int) (s : DS) (d : Nat) : dcall E (d + 1) (.func (.func r) #[] #[]) [.int .u32 x, .int .i64 (-8)] s = some (.int .u32 (QF 8 x), s) := by
 rw [Wz hir hr rfl]
 unfold W2
 kernel_rfl
theorem M5 (x : Int) (s : DS) (d : Nat) : dcall E (d + 1) (.func (.func r) #[] #[]) [.int .u32 x, .int .i64 (-7)] s = some (.int .u32 (QF 7 x), s) := by
 rw [Wz hir hr rfl]
 unfold W2
 kernel_rfl
end
theorem V8.upd_upd {α : Type} (i : Nat) (f g : α → α) (v : V8 α) : V8.upd i f (V8.upd i g v) = V8.upd i (fun z => f (g z)) v := by
 obtain ⟨a, b, c, d, e, p, h, k⟩ := v
 match i with
 | 0 | 1 | 2 | 3 | 4 | 5 | 6 => rfl
 | _ + 7 => rfl
theorem BT.set_set {α : Type} : ∀ (n : Nat) (t : BT α) (k : Nat) (x y : Option α), BT.setAux n (BT.setAux n t k x) k y = BT.setAux n t k y
 | 0, _, _, _, _ => rfl
 | n + 1, t, 0, x, y => by cases t <;> rfl
 | n + 1, t, k + 1, x, y => by
  cases t with
  | nil =>
   simp only [BT.setAux]
   by_cases hm : (k % 2 == 0) = true
   · simp only [hm, if_true, BT.set_set n]
   · simp only [hm, z3, if_false, BT.set_set n]
  | node v a b =>
   simp only [BT.setAux]
   by_cases hm : (k % 2 == 0) = true
   · simp only [hm, if_true, BT.set_set n]
   · simp only [hm, z3, if_false, BT.set_set n]
theorem PT.put_put {α : Type} (t : PT α) (k : Nat) (x y : Option α) : (t.put k x).put k y = t.put k y := by
 obtain ⟨lo, mid, far, big⟩ := t
 by_cases h1 : k < 64
 · simp only [PT.put, h1, if_true, V8.upd_upd]
 · by_cases h2 : k < 4160
   · simp only [PT.put, h1, h2, if_true, if_false, V8.upd_upd]
   · by_cases h3 : k < 36928
     · simp only [PT.put, h1, h2, h3, if_true, if_false, V8.upd_upd]
     · simp only [PT.put, h1, h2, h3, if_false]
       show PT.mk lo mid far (BT.put (BT.put big k x) k y) = _
       unfold BT.put
       rw [BT.set_set]
def NS (n size : Nat) (x i : Value) : Option Value :=
 match x, Zj i with
 | .pointer (some ⟨k, o, none⟩), some j => if Nat.blt j n then some (.pointer (some ⟨k, o + j * size, none⟩)) else none
 | _, _ => none
theorem NM (k : Nat) {j : Nat} (h : Nat.blt j 16 = true) : NS 16 1 (.pointer (some ⟨k, 0, none⟩)) (.int .i64 (Int.ofNat j)) = some (.pointer (some ⟨k, j, none⟩)) := by
 simp only [NS, Zj, h, if_true, Nat.zero_add, Nat.mul_one]
def wrS (s : DS) (k : Nat) (l : List Value) : DS := { s with heap := s.heap.put k (some (.cells (.list l) false)) }
theorem R1 (s : DS) (k : Nat) (l l' : List Value) : wrS (wrS s k l) k l' = wrS s k l' := by
 simp only [wrS, PT.put_put]
theorem GR {s : DS} {k : Nat} {l : List Value} (h : (s.get k).isSome = true) : (wrS s k l).get k = some (.cells (.list l) false) := by
 unfold DS.get at h ⊢
 split at h
 · rename_i hc
   simp only [wrS, hc, if_true, PT.get_put]
 · cases h
theorem Ch {s : DS} {k : Nat} {l : List Value} (h : s.wr k = true) : s.set k (.cells (.list l) false) = some (wrS s k l) := by
 simp only [DS.set, h, if_true, wrS]
def ldV (a : Value) (s : DS) : Option Value :=
 match a with
 | .pointer (some ⟨k, off, none⟩) => match s.get k with
  | some (.cells c _) => c.get off
  | _ => none
 | _ => none
theorem V0 {call : zN} {ρ : Operand → Value} {s : DS} {a : Operand} : dop call ρ s (.ld none a) = (match ldV (ρ a) s with | some v => some (v, s) | none => none) := by
 rfl
theorem Rm {call : zN} {ρ : Operand → Value} {s : DS} {size : Nat} {a x : Operand} : dop call ρ s (.st size a x) = (match JO size (ρ a) (ρ x) s with | some s' => some (Zb, s') | none => none) := by
 have h := GV ρ s size a x
 show zG ρ s (.st size a x) = _
 rw [← h]
 cases JO size (ρ a) (ρ x) s <;> rfl
theorem Nb {s : DS} {k : Nat} {l : List Value} (hg : s.get k = some (.cells (.list l) false)) (off : Nat) : ldV (.pointer (some ⟨k, off, none⟩)) s = getN l off := by
 simp only [ldV, hg]; rfl
theorem P1 {s : DS} {k : Nat} {l : List Value} (hg : s.get k = some (.cells (.list l) false)) (hw : s.wr k = true) (off : Nat) (q : IntKind) (v : Int) (h : (getN l off).isSome = true) :
 JO 1 (.pointer (some ⟨k, off, none⟩)) (.int q v) s = some (wrS s k (Zd l off (.int q v))) := by
 have hp := Cx (.list l) off
 rw [show (Cells.list l).get off = getN l off from rfl, h] at hp
 have hc : (Nat.beq [Value.int q v].length 1 && allOne [Value.int q v]) = true := rfl
 show (if (Nat.beq [Value.int q v].length 1 && allOne [Value.int q v]) = true then s.write k off [Value.int q v] else none) = _
 rw [if_pos hc]
 unfold DS.write
 rw [hg]
 show (if Nat.ble (off + 1) (Cells.list l).size = true then s.set k (.cells (.list (Zd l off (.int q v))) false) else none) = _
 rw [if_pos hp.symm]
 exact Ch hw
theorem W9 : ∀ {l : List Value} {i : Nat} {v : Value}, (getN l i).isSome = true → getN (Zd l i v) i = some v
 | [], _, _, h => by cases h
 | _ :: _, 0, _, _ => rfl
 | _ :: l, i + 1, v, h => W9 (l := l) (i := i) h
theorem QW : ∀ {l : List Value} {i j : Nat} {v : Value}, i ≠ j → getN (Zd l i v) j = getN l j
 | [], _, _, _, _ => rfl
 | _ :: _, 0, 0, _, h => absurd rfl h
 | _ :: _, 0, _ + 1, _, _ => rfl
 | _ :: _, _ + 1, 0, _, _ => rfl
 | _ :: l, i + 1, j + 1, v, h => QW (l := l) fun e => h (congrArg Nat.succ e)
theorem VZ {call : zN} {ρ : Operand → Value} {s : DS} {x : Operand} : dop call ρ s (.mv x) = some (ρ x, s) := rfl
theorem PH {call : zN} {ρ : Operand → Value} {s : DS} {x : Operand} : dop call ρ s (.nilck x) = (match Si (ρ x) with | some v => some (v, s) | none => none) := rfl
theorem PI {call : zN} {ρ : Operand → Value} {s : DS} {n z : Nat} {x i : Operand} : dop call ρ s (.ixA n z x i) = (match NS n z (ρ x) (ρ i) with | some v => some (v, s) | none => none) := rfl
theorem J5 {call : zN} {ρ : Operand → Value} {s : DS} {op : BinOp} {x y : Operand} : dop call ρ s (.bin op x y) = (match zY op (ρ x) (ρ y) with | some v => some (v, s) | none => none) := rfl
theorem QZ {call : zN} {ρ : Operand → Value} {s : DS} {f : Operand} {args : List Operand} : dop call ρ s (.call f args) = call (ρ f) (args.map ρ) s := rfl
theorem PP (a b : Int) : zY .add (.int .u32 a) (.int .u32 b) = some (.int .u32 (Qq a b)) := rfl
theorem RW (a b : Int) : zY .xor (.int .u32 a) (.int .u32 b) = some (.int .u32 (Wm a b)) := rfl
def Fx (a b c d : Nat) (x y va vb vc vd : Int) (l : List Value) : List Value :=
 (fun (a1 : Int) => (fun (d1 : Int) => (fun (c1 : Int) => (fun (b1 : Int) => (fun (a2 : Int) => (fun (d2 : Int) => (fun (c2 : Int) =>
  Zd (Zd (Zd (Zd (Zd (Zd (Zd (Zd l a (.int .u32 a1)) d (.int .u32 d1)) c (.int .u32 c1)) b (.int .u32 b1)) a (.int .u32 a2)) d (.int .u32 d2)) c (.int .u32 c2)) b (.int .u32 (QF 7 (Wm b1 c2))))
  (Qq c1 d2)) (QF 8 (Wm d1 a2))) (Qq a1 (Qq b1 y))) (QF 12 (Wm vb c1))) (Qq vc d1)) (QF 16 (Wm vd a1))) (Qq va (Qq vb x))
section
variable {E : Env} {r st : Nat} (hst : E.fn st = some (YR r)) (his : E.intr st = none) (hr : E.fn r = some Wb) (hir : E.intr r = none)
include hst his hr hir
set_option maxHeartbeats 4000000 in
theorem Fw {s : DS} {k : Nat} {l : List Value} {a b c d : Nat} {va vb vc vd x y : Int} (hg : s.get k = some (.cells (.list l) false)) (hw : s.wr k = true)
 (ha : Nat.blt a 16 = true) (hb : Nat.blt b 16 = true) (hc : Nat.blt c 16 = true) (hd : Nat.blt d 16 = true)
 (ab : a ≠ b) (ac : a ≠ c) (ad : a ≠ d) (bc : b ≠ c) (bd : b ≠ d) (cd : c ≠ d)
 (ga : getN l a = some (.int .u32 va)) (gb : getN l b = some (.int .u32 vb)) (gc : getN l c = some (.int .u32 vc)) (gd : getN l d = some (.int .u32 vd)) (n : Nat) :
 dcall E (n + 2) (.func (.func st) #[] #[]) [.pointer (some ⟨k, 0, none⟩), .int .i64 (Int.ofNat a), .int .i64 (Int.ofNat b), .int .i64 (Int.ofNat c), .int .i64 (Int.ofNat d), .int .u32 x, .int .u32 y] s = some (.tuple #[], wrS s k (Fx a b c d x y va vb vc vd l)) := by
 have hs : (s.get k).isSome = true := by rw [hg]; rfl
 have ba := ab.symm; have ca := ac.symm; have da := ad.symm; have cb := bc.symm; have db := bd.symm; have dc := cd.symm
 have hwr : ∀ l', (wrS s k l').wr k = true := fun _ => hw
 rw [Wz his hst rfl]
 simp only [W2, YR, Zf, Vj, JL, VZ, PH, PI, J5, QZ, V0, Rm, ev, YG, PT.get_put, zq, List.getElem?_cons_zero, List.getElem?_cons_succ, z1, Nat.reduceEqDiff, if_true, if_false,
  Si, NM, ha, hb, hc, hd, PP, RW, z4, z5, Mp hr hir, Mq hr hir, M4 hr hir, M5 hr hir, Nb hg, P1 hg hw, Nb (GR hs), P1 (GR hs) (hwr _), R1, ga, gb, gc, gd, Option.isSome_some,
  W9, QW, ab, ac, ad, bc, bd, cd, ba, ca, da, cb, db, dc, ne_eq, z0, ZD, zo, zz]
 rfl
end
def Qj (a b : Nat) : Bool := !Nat.beq a b
theorem Ym {a b : Nat} (h : Qj a b = true) : a ≠ b := by
 rintro rfl
 unfold Qj at h
 rw [Nat.beq_refl] at h
 cases h
def Gu (all : List Value) (s : DS) : Option (Value × DS) :=
 match all with
 | [.pointer (some ⟨k, 0, none⟩), .int .i64 (.ofNat a), .int .i64 (.ofNat b), .int .i64 (.ofNat c), .int .i64 (.ofNat d), .int .u32 x, .int .u32 y] =>
  match s.get k with
  | some (.cells (.list l) false) =>
   if s.wr k && Nat.blt a 16 && Nat.blt b 16 && Nat.blt c 16 && Nat.blt d 16 && Qj a b && Qj a c && Qj a d && Qj b c && Qj b d && Qj c d then
    match getN l a, getN l b, getN l c, getN l d with
    | some (.int .u32 va), some (.int .u32 vb), some (.int .u32 vc), some (.int .u32 vd) => some (.tuple #[], wrS s k (Fx a b c d x y va vb vc vd l))
    | _, _, _, _ => none
   else none
  | _ => none
 | _ => none
theorem C0 {E : Env} {r st : Nat} (hst : E.fn st = some (YR r)) (his : E.intr st = none) (hr : E.fn r = some Wb) (hir : E.intr r = none)
 {all : List Value} {s s' : DS} {v : Value} (h : Gu all s = some (v, s')) : dcall E 2 (.func (.func st) #[] #[]) all s = some (v, s') := by
 unfold Gu at h
 split at h
 rotate_left
 · cases h
 split at h
 rotate_left
 · cases h
 rename_i hg
 split at h
 rotate_left
 · cases h
 rename_i hc
 simp only [Bool.and_eq_true] at hc
 obtain ⟨⟨⟨⟨⟨⟨⟨⟨⟨⟨hw, ha⟩, hb⟩, hc⟩, hd⟩, ab⟩, ac⟩, ad⟩, bc⟩, bd⟩, cd⟩ := hc
 split at h
 rotate_left
 · cases h
 rename_i ga gb gc gd
 rw [← h]
 exact Fw hst his hr hir hg hw ha hb hc hd (Ym ab) (Ym ac) (Ym ad) (Ym bc) (Ym bd) (Ym cd) ga gb gc gd 0
theorem FT {P : Program} {E : Env} (hE : Ga P E) {g d : Nat} {F : List Value → DS → Option (Value × DS)} (hF : ∀ all s v s', F all s = some (v, s') → dcall E d (.func (.func g) #[] #[]) all s = some (v, s'))
 (hbody : ∀ X w, (callFunc g X).run P w = .ok (.enter g X) w) : Xe P g F := by
 obtain ⟨hfr, hb, hok⟩ := YV hE d
 refine ⟨fun args s v s' h => hfr _ _ _ _ _ (hF _ _ _ _ h), hbody, ?_⟩
 intro args s v s' h β w args' hargs hR hf
 have he := hok _ _ _ _ _ (hF _ _ _ _ h) β w (.func (.func g) #[] #[]) args' (.func .nil .nil) hargs hR hf
 simp only [Deferred.ofValue, Sem.run_bind, Sem.run_pure, Result.andThen_ok, invoke, hbody] at he
 simp only [Enters] at he
 have e1 : #[] ++ args' ++ #[] = args' := by simp
 rw [e1] at he
 exact callsIn_wide.2 (callsIn_wide.1 he)
theorem R4 {P : Program} (hm : P.follows .mixedOrders = true) {r st : Nat} (hne : Nat.beq r st = false) {fs fr : Func} (h1 : P.funcs[st]? = some fs) (h2 : zh P fs = some (YR r)) (h3 : P.funcs[r]? = some fr) (h4 : zh P fr = some Wb)
 (hbody : ∀ X w, (callFunc st X).run P w = .ok (.enter st X) w) : Xe P st Gu := by
 have hE : Ga P { fn := fun k => if Nat.beq k st then some (YR r) else if Nat.beq k r then some Wb else none, intr := fun _ => none, lf := 1 } := by
  refine ⟨hm, fun k df h => ?_, fun k F h => by cases h⟩
  have h : (if Nat.beq k st then some (YR r) else if Nat.beq k r then some Wb else none) = some df := h
  split at h
  · rename_i hk
    cases h
    rw [Nat.eq_of_beq_eq_true hk]
    exact ⟨fs, h1, h2⟩
  · split at h
    · rename_i hk
      cases h
      rw [Nat.eq_of_beq_eq_true hk]
      exact ⟨fr, h3, h4⟩
    · cases h
 refine FT hE (fun all s v s' h => C0 (r := r) ?_ rfl ?_ rfl h) hbody
 · show (if Nat.beq st st then some (YR r) else _) = _
   rw [Nat.beq_refl]; rfl
 · show (if Nat.beq r st then some (YR r) else if Nat.beq r r then some Wb else none) = _
   rw [hne, Nat.beq_refl]; rfl
noncomputable section
def xs (l : List Value) (i : Nat) (v : Value) : List Value := Ns.rec (motive := fun _ => List Value) (fun f => f v l) (DQ i)
theorem Ma (l : List Value) (i : Nat) (v : Value) : xs l i v = Zd l i v := by
 unfold xs
 rw [K0]
def xg (l : List Value) (i : Nat) : Option Value := Nt.rec (motive := fun _ => Option Value) (fun f => f l) (nth i)
theorem Mb (l : List Value) (i : Nat) : xg l i = getN l i := by
 unfold xg
 rw [VE]
def Vk (all : List Value) (s : DS) : Option (Value × DS) :=
 match all with
 | [.pointer (some ⟨k, 0, none⟩), .int .i64 (.ofNat a), .int .i64 (.ofNat b), .int .i64 (.ofNat c), .int .i64 (.ofNat d), .int .u32 x, .int .u32 y] =>
  match hp s k with
  | some (.cells (.list l) false) =>
   if s.wr k && Nat.blt a 16 && Nat.blt b 16 && Nat.blt c 16 && Nat.blt d 16 && Qj a b && Qj a c && Qj a d && Qj b c && Qj b d && Qj c d then
    match xg l a, xg l b, xg l c, xg l d with
    | some (.int .u32 va), some (.int .u32 vb), some (.int .u32 vc), some (.int .u32 vd) =>
     (fun (a1 : Int) => (fun (d1 : Int) => (fun (c1 : Int) => (fun (b1 : Int) => (fun (a2 : Int) => (fun (d2 : Int) => (fun (c2 : Int) =>
      Option.rec (motive := fun _ => Option (Value × DS)) none (fun s' => some (.tuple #[], s')) (CV s k (.cells (.list (xs (xs (xs (xs l a (.int .u32 a2)) d (.int .u32 d2)) c (.int .u32 c2)) b (.int .u32 (QF 7 (Wm b1 c2))))) false)))
      (Qq c1 d2)) (QF 8 (Wm d1 a2))) (Qq a1 (Qq b1 y))) (QF 12 (Wm vb c1))) (Qq vc d1)) (QF 16 (Wm vd a1))) (Qq va (Qq vb x))
    | _, _, _, _ => none
   else none
  | _ => none
 | _ => none
theorem Qh : ∀ (l : List Value) (i : Nat) (u v : Value), Zd (Zd l i u) i v = Zd l i v
 | [], _, _, _ => rfl
 | _ :: _, 0, _, _ => rfl
 | x :: l, i + 1, u, v => congrArg (x :: ·) (Qh l i u v)
theorem XO : ∀ (l : List Value) {i j : Nat} (u v : Value), i ≠ j → Zd (Zd l i u) j v = Zd (Zd l j v) i u
 | [], _, _, _, _, _ => rfl
 | _ :: _, 0, 0, _, _, h => absurd rfl h
 | _ :: _, 0, _ + 1, _, _, _ => rfl
 | _ :: _, _ + 1, 0, _, _, _ => rfl
 | x :: l, i + 1, j + 1, u, v, h => congrArg (x :: ·) (XO l u v fun e => h (congrArg Nat.succ e))
theorem TX {a b c d : Nat} (ab : a ≠ b) (ac : a ≠ c) (ad : a ≠ d) (bc : b ≠ c) (bd : b ≠ d) (cd : c ≠ d) (l : List Value) (A1 A2 B1 B2 C1 C2 D1 D2 : Value) :
 Zd (Zd (Zd (Zd (Zd (Zd (Zd (Zd l a A1) d D1) c C1) b B1) a A2) d D2) c C2) b B2 = Zd (Zd (Zd (Zd l a A2) d D2) c C2) b B2 := by
 rw [XO _ B1 A2 ab.symm, XO _ C1 A2 ac.symm, XO _ D1 A2 ad.symm, Qh]
 rw [XO _ B1 D2 bd, XO _ C1 D2 cd, Qh]
 rw [XO _ B1 C2 bc, Qh, Qh]
theorem TW (all : List Value) (s : DS) : Vk all s = Gu all s := by
 unfold Vk Gu
 simp only [KC, Mb, Ma, KU]
 split
 · split
   · split
     · rename_i hc
       simp only [Bool.and_eq_true] at hc
       obtain ⟨⟨⟨⟨⟨⟨⟨⟨⟨⟨hw, ha⟩, hb⟩, hc⟩, hd⟩, ab⟩, ac⟩, ad⟩, bc⟩, bd⟩, cd⟩ := hc
       split
       · rw [Ch hw]
         unfold Fx
         simp only [TX (Ym ab) (Ym ac) (Ym ad) (Ym bc) (Ym bd) (Ym cd)]
       · rfl
     · rfl
   · rfl
 · rfl
theorem TU {P : Program} (hm : P.follows .mixedOrders = true) {r st : Nat} (hne : Nat.beq r st = false) {fs fr : Func} (h1 : P.funcs[st]? = some fs) (h2 : zh P fs = some (YR r)) (h3 : P.funcs[r]? = some fr) (h4 : zh P fr = some Wb)
 (hbody : ∀ X w, (callFunc st X).run P w = .ok (.enter st X) w) : Xe P st Vk := by
 have e : Vk = Gu := funext fun all => funext fun s => TW all s
 rw [e]
 exact R4 hm hne h1 h2 h3 h4 hbody
end
theorem Xe.or {P : Program} {k : Nat} {F G : List Value → DS → Option (Value × DS)} (hF : Xe P k F) (hG : Xe P k G) : Xe P k fun a s => match F a s with | some r => some r | none => G a s := by
 refine ⟨fun a s v s' h => ?_, hF.body, fun a s v s' h => ?_⟩
 · cases hx : F a s with
   | none => simp only [hx] at h; exact hG.frame _ _ _ _ h
   | some r => simp only [hx, z2] at h; subst h; exact hF.frame _ _ _ _ hx
 · cases hx : F a s with
   | none => simp only [hx] at h; exact hG.sound _ _ _ _ h
   | some r => simp only [hx, z2] at h; subst h; exact hF.sound _ _ _ _ hx
end Go.Dx
