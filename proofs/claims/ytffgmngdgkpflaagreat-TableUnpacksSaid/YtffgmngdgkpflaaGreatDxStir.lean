/- A part. -/
import Derived.Test.YtffgmngdgkpflaaGreatDxSym
import Derived.Test.YtffgmngdgkpflaaGreatDxSorted
import Derived.Test.YtffgmngdgkpflaaGreatDxX4
import Derived.KernelRfl
set_option linter.unusedVariables false
set_option linter.unusedSimpArgs false
set_option linter.unusedSectionVars false
set_option maxRecDepth 100000
namespace Go.Dx
open Go
def QK : z7 := { ntmps := 17, results := [.tmp 4], body := .seq (.region [⟨some 4, .mv (.const (.int .u32 0)), none, [], false⟩]) (.seq (.region [⟨some 6, .mv (.tmp 1), none, [], false⟩, ⟨some 7, .cvInt .u64 (.tmp 6), none, [], false⟩, ⟨some 8, .bin .and (.tmp 7) (.const (.int .u64 31)), none, [], false⟩, ⟨some 5, .mv (.tmp 8), none, [], false⟩]) (.seq (.region [⟨some 9, .mv (.tmp 0), none, [], false⟩, ⟨some 10, .mv (.tmp 5), none, [], false⟩, ⟨some 11, .bin .shl (.tmp 9) (.tmp 10), none, [], false⟩, ⟨some 12, .mv (.tmp 0), none, [], false⟩, ⟨some 13, .mv (.tmp 5), none, [], false⟩, ⟨some 14, .bin .sub (.const (.int .u64 32)) (.tmp 13), none, [], false⟩, ⟨some 15, .bin .shr (.tmp 12) (.tmp 14), none, [], false⟩, ⟨some 16, .bin .or (.tmp 11) (.tmp 15), none, [], false⟩, ⟨some 4, .mv (.tmp 16), none, [], false⟩]) (.ret))) }
def Wx (r : Nat) : z7 := { ntmps := 134, results := [], body := .seq (.region [⟨some 14, .mv (.tmp 0), none, [], false⟩, ⟨some 15, .mv (.tmp 1), none, [], false⟩, ⟨some 16, .nilck (.tmp 14), none, [], false⟩, ⟨some 17, .ixA 16 1 (.tmp 16) (.tmp 15), none, [], false⟩, ⟨some 18, .ld none (.tmp 17), none, [], false⟩, ⟨some 19, .mv (.tmp 0), none, [], false⟩, ⟨some 20, .mv (.tmp 2), none, [], false⟩, ⟨some 21, .nilck (.tmp 19), none, [], false⟩, ⟨some 22, .ixA 16 1 (.tmp 21) (.tmp 20), none, [], false⟩, ⟨some 23, .ld none (.tmp 22), none, [], false⟩, ⟨some 24, .mv (.tmp 5), none, [], false⟩, ⟨some 25, .bin .add (.tmp 23) (.tmp 24), none, [], false⟩, ⟨some 26, .bin .add (.tmp 18) (.tmp 25), none, [], false⟩, ⟨some 27, .nilck (.tmp 14), none, [], false⟩, ⟨some 28, .ixA 16 1 (.tmp 27) (.tmp 15), none, [], false⟩, ⟨none, .st 1 (.tmp 28) (.tmp 26), none, [], false⟩]) (.seq (.region [⟨some 29, .mv (.tmp 0), none, [], false⟩, ⟨some 30, .mv (.tmp 4), none, [], false⟩, ⟨some 31, .mv (.tmp 0), none, [], false⟩, ⟨some 32, .mv (.tmp 4), none, [], false⟩, ⟨some 33, .nilck (.tmp 31), none, [], false⟩, ⟨some 34, .ixA 16 1 (.tmp 33) (.tmp 32), none, [], false⟩, ⟨some 35, .ld none (.tmp 34), none, [], false⟩, ⟨some 36, .mv (.tmp 0), none, [], false⟩, ⟨some 37, .mv (.tmp 1), none, [], false⟩, ⟨some 38, .nilck (.tmp 36), none, [], false⟩, ⟨some 39, .ixA 16 1 (.tmp 38) (.tmp 37), none, [], false⟩, ⟨some 40, .ld none (.tmp 39), none, [], false⟩, ⟨some 41, .bin .xor (.tmp 35) (.tmp 40), none, [], false⟩, ⟨some 43, .nilck (.tmp 29), none, [], false⟩, ⟨some 42, .call (.func r) [.tmp 41, .const (.int .i64 (-16))], none, [], false⟩, ⟨some 44, .ixA 16 1 (.tmp 43) (.tmp 30), none, [], false⟩, ⟨none, .st 1 (.tmp 44) (.tmp 42), none, [], false⟩]) (.seq (.region [⟨some 45, .mv (.tmp 0), none, [], false⟩, ⟨some 46, .mv (.tmp 3), none, [], false⟩, ⟨some 47, .nilck (.tmp 45), none, [], false⟩, ⟨some 48, .ixA 16 1 (.tmp 47) (.tmp 46), none, [], false⟩, ⟨some 49, .ld none (.tmp 48), none, [], false⟩, ⟨some 50, .mv (.tmp 0), none, [], false⟩, ⟨some 51, .mv (.tmp 4), none, [], false⟩, ⟨some 52, .nilck (.tmp 50), none, [], false⟩, ⟨some 53, .ixA 16 1 (.tmp 52) (.tmp 51), none, [], false⟩, ⟨some 54, .ld none (.tmp 53), none, [], false⟩, ⟨some 55, .bin .add (.tmp 49) (.tmp 54), none, [], false⟩, ⟨some 56, .nilck (.tmp 45), none, [], false⟩, ⟨some 57, .ixA 16 1 (.tmp 56) (.tmp 46), none, [], false⟩, ⟨none, .st 1 (.tmp 57) (.tmp 55), none, [], false⟩]) (.seq (.region [⟨some 58, .mv (.tmp 0), none, [], false⟩, ⟨some 59, .mv (.tmp 2), none, [], false⟩, ⟨some 60, .mv (.tmp 0), none, [], false⟩, ⟨some 61, .mv (.tmp 2), none, [], false⟩, ⟨some 62, .nilck (.tmp 60), none, [], false⟩, ⟨some 63, .ixA 16 1 (.tmp 62) (.tmp 61), none, [], false⟩, ⟨some 64, .ld none (.tmp 63), none, [], false⟩, ⟨some 65, .mv (.tmp 0), none, [], false⟩, ⟨some 66, .mv (.tmp 3), none, [], false⟩, ⟨some 67, .nilck (.tmp 65), none, [], false⟩, ⟨some 68, .ixA 16 1 (.tmp 67) (.tmp 66), none, [], false⟩, ⟨some 69, .ld none (.tmp 68), none, [], false⟩, ⟨some 70, .bin .xor (.tmp 64) (.tmp 69), none, [], false⟩, ⟨some 72, .nilck (.tmp 58), none, [], false⟩, ⟨some 71, .call (.func r) [.tmp 70, .const (.int .i64 (-12))], none, [], false⟩, ⟨some 73, .ixA 16 1 (.tmp 72) (.tmp 59), none, [], false⟩, ⟨none, .st 1 (.tmp 73) (.tmp 71), none, [], false⟩]) (.seq (.region [⟨some 74, .mv (.tmp 0), none, [], false⟩, ⟨some 75, .mv (.tmp 1), none, [], false⟩, ⟨some 76, .nilck (.tmp 74), none, [], false⟩, ⟨some 77, .ixA 16 1 (.tmp 76) (.tmp 75), none, [], false⟩, ⟨some 78, .ld none (.tmp 77), none, [], false⟩, ⟨some 79, .mv (.tmp 0), none, [], false⟩, ⟨some 80, .mv (.tmp 2), none, [], false⟩, ⟨some 81, .nilck (.tmp 79), none, [], false⟩, ⟨some 82, .ixA 16 1 (.tmp 81) (.tmp 80), none, [], false⟩, ⟨some 83, .ld none (.tmp 82), none, [], false⟩, ⟨some 84, .mv (.tmp 6), none, [], false⟩, ⟨some 85, .bin .add (.tmp 83) (.tmp 84), none, [], false⟩, ⟨some 86, .bin .add (.tmp 78) (.tmp 85), none, [], false⟩, ⟨some 87, .nilck (.tmp 74), none, [], false⟩, ⟨some 88, .ixA 16 1 (.tmp 87) (.tmp 75), none, [], false⟩, ⟨none, .st 1 (.tmp 88) (.tmp 86), none, [], false⟩]) (.seq (.region [⟨some 89, .mv (.tmp 0), none, [], false⟩, ⟨some 90, .mv (.tmp 4), none, [], false⟩, ⟨some 91, .mv (.tmp 0), none, [], false⟩, ⟨some 92, .mv (.tmp 4), none, [], false⟩, ⟨some 93, .nilck (.tmp 91), none, [], false⟩, ⟨some 94, .ixA 16 1 (.tmp 93) (.tmp 92), none, [], false⟩, ⟨some 95, .ld none (.tmp 94), none, [], false⟩, ⟨some 96, .mv (.tmp 0), none, [], false⟩, ⟨some 97, .mv (.tmp 1), none, [], false⟩, ⟨some 98, .nilck (.tmp 96), none, [], false⟩, ⟨some 99, .ixA 16 1 (.tmp 98) (.tmp 97), none, [], false⟩, ⟨some 100, .ld none (.tmp 99), none, [], false⟩, ⟨some 101, .bin .xor (.tmp 95) (.tmp 100), none, [], false⟩, ⟨some 103, .nilck (.tmp 89), none, [], false⟩, ⟨some 102, .call (.func r) [.tmp 101, .const (.int .i64 (-8))], none, [], false⟩, ⟨some 104, .ixA 16 1 (.tmp 103) (.tmp 90), none, [], false⟩, ⟨none, .st 1 (.tmp 104) (.tmp 102), none, [], false⟩]) (.seq (.region [⟨some 105, .mv (.tmp 0), none, [], false⟩, ⟨some 106, .mv (.tmp 3), none, [], false⟩, ⟨some 107, .nilck (.tmp 105), none, [], false⟩, ⟨some 108, .ixA 16 1 (.tmp 107) (.tmp 106), none, [], false⟩, ⟨some 109, .ld none (.tmp 108), none, [], false⟩, ⟨some 110, .mv (.tmp 0), none, [], false⟩, ⟨some 111, .mv (.tmp 4), none, [], false⟩, ⟨some 112, .nilck (.tmp 110), none, [], false⟩, ⟨some 113, .ixA 16 1 (.tmp 112) (.tmp 111), none, [], false⟩, ⟨some 114, .ld none (.tmp 113), none, [], false⟩, ⟨some 115, .bin .add (.tmp 109) (.tmp 114), none, [], false⟩, ⟨some 116, .nilck (.tmp 105), none, [], false⟩, ⟨some 117, .ixA 16 1 (.tmp 116) (.tmp 106), none, [], false⟩, ⟨none, .st 1 (.tmp 117) (.tmp 115), none, [], false⟩]) (.region [⟨some 118, .mv (.tmp 0), none, [], false⟩, ⟨some 119, .mv (.tmp 2), none, [], false⟩, ⟨some 120, .mv (.tmp 0), none, [], false⟩, ⟨some 121, .mv (.tmp 2), none, [], false⟩, ⟨some 122, .nilck (.tmp 120), none, [], false⟩, ⟨some 123, .ixA 16 1 (.tmp 122) (.tmp 121), none, [], false⟩, ⟨some 124, .ld none (.tmp 123), none, [], false⟩, ⟨some 125, .mv (.tmp 0), none, [], false⟩, ⟨some 126, .mv (.tmp 3), none, [], false⟩, ⟨some 127, .nilck (.tmp 125), none, [], false⟩, ⟨some 128, .ixA 16 1 (.tmp 127) (.tmp 126), none, [], false⟩, ⟨some 129, .ld none (.tmp 128), none, [], false⟩, ⟨some 130, .bin .xor (.tmp 124) (.tmp 129), none, [], false⟩, ⟨some 132, .nilck (.tmp 118), none, [], false⟩, ⟨some 131, .call (.func r) [.tmp 130, .const (.int .i64 (-7))], none, [], false⟩, ⟨some 133, .ixA 16 1 (.tmp 132) (.tmp 119), none, [], false⟩, ⟨none, .st 1 (.tmp 133) (.tmp 131), none, [], false⟩]))))))) }
def Jh (a b : Int) : Int := Zj .u32 (a + b)
def KR (a b : Int) : Int := Zj .u32 (Int.ofNat (low .u32 a ^^^ low .u32 b))
def JA (n : Nat) (x : Int) : Int := Zj .u32 (Int.ofNat (low .u32 (Zj .u32 (x * Int.ofNat (2 ^ (32 - n)))) ||| low .u32 (x.fdiv (Int.ofNat (2 ^ n)))))
section
variable {E : Env} {r : Nat} (hr : E.fn r = some QK) (hir : E.intr r = none)
include hr hir
theorem Eg (x : Int) (s : DS) (d : Nat) : dcall E (d + 1) (.func (.func r) #[] #[]) [.int .u32 x, .int .i64 (-16)] s = some (.int .u32 (JA 16 x), s) := by
 rw [Qp hir hr rfl]
 unfold QQ
 kernel_rfl
theorem Eh (x : Int) (s : DS) (d : Nat) : dcall E (d + 1) (.func (.func r) #[] #[]) [.int .u32 x, .int .i64 (-12)] s = some (.int .u32 (JA 12 x), s) := by
 rw [Qp hir hr rfl]
 unfold QQ
 kernel_rfl
theorem EH (x : Int) (s : DS) (d : Nat) : dcall E (d + 1) (.func (.func r) #[] #[]) [.int .u32 x, .int .i64 (-8)] s = some (.int .u32 (JA 8 x), s) := by
 rw [Qp hir hr rfl]
 unfold QQ
 kernel_rfl
theorem EI (x : Int) (s : DS) (d : Nat) : dcall E (d + 1) (.func (.func r) #[] #[]) [.int .u32 x, .int .i64 (-7)] s = some (.int .u32 (JA 7 x), s) := by
 rw [Qp hir hr rfl]
 unfold QQ
 kernel_rfl
end
theorem V8.upd_upd {α : Type} (i : Nat) (f g : α → α) (v : V8 α) : V8.upd i f (V8.upd i g v) = V8.upd i (fun z => f (g z)) v := by
 obtain ⟨a, b, c, d, e, p, h, k⟩ := v
 match i with
 | 0 | 1 | 2 | 3 | 4 | 5 | 6 => rfl
 | _ + 7 => rfl
theorem BT.set_set {α : Type} : ∀ (n : Nat) (t : BT α) (k : Nat) (x y : Option α), BT.setAux n (BT.setAux n t k x) k y = BT.setAux n t k y
 | 0, _, _, _, _ => rfl
 | n + 1, t, 0, x, y => by cases t <;> rfl
 | n + 1, t, k + 1, x, y => by
  cases t with
  | nil =>
   simp only [BT.setAux]
   by_cases hm : (k % 2 == 0) = true
   · simp only [hm, if_true, BT.set_set n]
   · simp only [hm, z3, if_false, BT.set_set n]
  | node v a b =>
   simp only [BT.setAux]
   by_cases hm : (k % 2 == 0) = true
   · simp only [hm, if_true, BT.set_set n]
   · simp only [hm, z3, if_false, BT.set_set n]
theorem PT.put_put {α : Type} (t : PT α) (k : Nat) (x y : Option α) : (t.put k x).put k y = t.put k y := by
 obtain ⟨lo, mid, far, big⟩ := t
 by_cases h1 : k < 64
 · simp only [PT.put, h1, if_true, V8.upd_upd]
 · by_cases h2 : k < 4160
   · simp only [PT.put, h1, h2, if_true, if_false, V8.upd_upd]
   · by_cases h3 : k < 36928
     · simp only [PT.put, h1, h2, h3, if_true, if_false, V8.upd_upd]
     · simp only [PT.put, h1, h2, h3, if_false]
       show PT.mk lo mid far (BT.put (BT.put big k x) k y) = _
       unfold BT.put
       rw [BT.set_set]
def HQ (n size : Nat) (x i : Value) : Option Value :=
 match x, Yk i with
 | .pointer (some ⟨k, o, none⟩), some j => if Nat.blt j n then some (.pointer (some ⟨k, o + j * size, none⟩)) else none
 | _, _ => none
theorem HJ (k : Nat) {j : Nat} (h : Nat.blt j 16 = true) : HQ 16 1 (.pointer (some ⟨k, 0, none⟩)) (.int .i64 (Int.ofNat j)) = some (.pointer (some ⟨k, j, none⟩)) := by
 simp only [HQ, Yk, h, if_true, Nat.zero_add, Nat.mul_one]
def wrS (s : DS) (k : Nat) (l : List Value) : DS := { s with heap := s.heap.put k (some (.cells (.list l) false)) }
theorem MZ (s : DS) (k : Nat) (l l' : List Value) : wrS (wrS s k l) k l' = wrS s k l' := by
 simp only [wrS, PT.put_put]
theorem SO {s : DS} {k : Nat} {l : List Value} (h : (s.get k).isSome = true) : (wrS s k l).get k = some (.cells (.list l) false) := by
 unfold DS.get at h ⊢
 split at h
 · rename_i hc
   simp only [wrS, hc, if_true, PT.get_put]
 · cases h
theorem SN {s : DS} {k : Nat} {l : List Value} (h : s.wr k = true) : s.set k (.cells (.list l) false) = some (wrS s k l) := by
 simp only [DS.set, h, if_true, wrS]
def ldV (a : Value) (s : DS) : Option Value :=
 match a with
 | .pointer (some ⟨k, off, none⟩) => match s.get k with
  | some (.cells c _) => c.get off
  | _ => none
 | _ => none
theorem FG {call : Zg} {ρ : Operand → Value} {s : DS} {a : Operand} : dop call ρ s (.ld none a) = (match ldV (ρ a) s with | some v => some (v, s) | none => none) := by
 rfl
theorem Mx {call : Zg} {ρ : Operand → Value} {s : DS} {size : Nat} {a x : Operand} : dop call ρ s (.st size a x) = (match K1 size (ρ a) (ρ x) s with | some s' => some (Zt, s') | none => none) := by
 have h := DX ρ s size a x
 show z6 ρ s (.st size a x) = _
 rw [← h]
 cases K1 size (ρ a) (ρ x) s <;> rfl
theorem Hn {s : DS} {k : Nat} {l : List Value} (hg : s.get k = some (.cells (.list l) false)) (off : Nat) : ldV (.pointer (some ⟨k, off, none⟩)) s = getN l off := by
 simp only [ldV, hg]; rfl
theorem Hf {s : DS} {k : Nat} {l : List Value} (hg : s.get k = some (.cells (.list l) false)) (hw : s.wr k = true) (off : Nat) (q : IntKind) (v : Int) (h : (getN l off).isSome = true) :
 K1 1 (.pointer (some ⟨k, off, none⟩)) (.int q v) s = some (wrS s k (Zb l off (.int q v))) := by
 have hp := Rt (.list l) off
 rw [show (Cells.list l).get off = getN l off from rfl, h] at hp
 have hc : (Nat.beq [Value.int q v].length 1 && zL [Value.int q v]) = true := rfl
 show (if (Nat.beq [Value.int q v].length 1 && zL [Value.int q v]) = true then s.write k off [Value.int q v] else none) = _
 rw [if_pos hc]
 unfold DS.write
 rw [hg]
 show (if Nat.ble (off + 1) (Cells.list l).size = true then s.set k (.cells (.list (Zb l off (.int q v))) false) else none) = _
 rw [if_pos hp.symm]
 exact SN hw
theorem Ky : ∀ {l : List Value} {i : Nat} {v : Value}, (getN l i).isSome = true → getN (Zb l i v) i = some v
 | [], _, _, h => by cases h
 | _ :: _, 0, _, _ => rfl
 | _ :: l, i + 1, v, h => Ky (l := l) (i := i) h
theorem VV : ∀ {l : List Value} {i j : Nat} {v : Value}, i ≠ j → getN (Zb l i v) j = getN l j
 | [], _, _, _, _ => rfl
 | _ :: _, 0, 0, _, h => absurd rfl h
 | _ :: _, 0, _ + 1, _, _ => rfl
 | _ :: _, _ + 1, 0, _, _ => rfl
 | _ :: l, i + 1, j + 1, v, h => VV (l := l) fun e => h (congrArg Nat.succ e)
theorem FF {call : Zg} {ρ : Operand → Value} {s : DS} {x : Operand} : dop call ρ s (.mv x) = some (ρ x, s) := rfl
theorem LK {call : Zg} {ρ : Operand → Value} {s : DS} {x : Operand} : dop call ρ s (.nilck x) = (match Nv (ρ x) with | some v => some (v, s) | none => none) := rfl
theorem LL {call : Zg} {ρ : Operand → Value} {s : DS} {n z : Nat} {x i : Operand} : dop call ρ s (.ixA n z x i) = (match HQ n z (ρ x) (ρ i) with | some v => some (v, s) | none => none) := rfl
theorem Vi {call : Zg} {ρ : Operand → Value} {s : DS} {op : BinOp} {x y : Operand} : dop call ρ s (.bin op x y) = (match Zc op (ρ x) (ρ y) with | some v => some (v, s) | none => none) := rfl
theorem JY {call : Zg} {ρ : Operand → Value} {s : DS} {f : Operand} {args : List Operand} : dop call ρ s (.call f args) = call (ρ f) (args.map ρ) s := rfl
theorem LT (a b : Int) : Zc .add (.int .u32 a) (.int .u32 b) = some (.int .u32 (Jh a b)) := rfl
theorem MU (a b : Int) : Zc .xor (.int .u32 a) (.int .u32 b) = some (.int .u32 (KR a b)) := rfl
def CC (a b c d : Nat) (x y va vb vc vd : Int) (l : List Value) : List Value :=
 (fun (a1 : Int) => (fun (d1 : Int) => (fun (c1 : Int) => (fun (b1 : Int) => (fun (a2 : Int) => (fun (d2 : Int) => (fun (c2 : Int) =>
  Zb (Zb (Zb (Zb (Zb (Zb (Zb (Zb l a (.int .u32 a1)) d (.int .u32 d1)) c (.int .u32 c1)) b (.int .u32 b1)) a (.int .u32 a2)) d (.int .u32 d2)) c (.int .u32 c2)) b (.int .u32 (JA 7 (KR b1 c2))))
  (Jh c1 d2)) (JA 8 (KR d1 a2))) (Jh a1 (Jh b1 y))) (JA 12 (KR vb c1))) (Jh vc d1)) (JA 16 (KR vd a1))) (Jh va (Jh vb x))
section
variable {E : Env} {r st : Nat} (hst : E.fn st = some (Wx r)) (his : E.intr st = none) (hr : E.fn r = some QK) (hir : E.intr r = none)
include hst his hr hir
set_option maxHeartbeats 4000000 in
theorem Nh {s : DS} {k : Nat} {l : List Value} {a b c d : Nat} {va vb vc vd x y : Int} (hg : s.get k = some (.cells (.list l) false)) (hw : s.wr k = true)
 (ha : Nat.blt a 16 = true) (hb : Nat.blt b 16 = true) (hc : Nat.blt c 16 = true) (hd : Nat.blt d 16 = true)
 (ab : a ≠ b) (ac : a ≠ c) (ad : a ≠ d) (bc : b ≠ c) (bd : b ≠ d) (cd : c ≠ d)
 (ga : getN l a = some (.int .u32 va)) (gb : getN l b = some (.int .u32 vb)) (gc : getN l c = some (.int .u32 vc)) (gd : getN l d = some (.int .u32 vd)) (n : Nat) :
 dcall E (n + 2) (.func (.func st) #[] #[]) [.pointer (some ⟨k, 0, none⟩), .int .i64 (Int.ofNat a), .int .i64 (Int.ofNat b), .int .i64 (Int.ofNat c), .int .i64 (Int.ofNat d), .int .u32 x, .int .u32 y] s = some (.tuple #[], wrS s k (CC a b c d x y va vb vc vd l)) := by
 have hs : (s.get k).isSome = true := by rw [hg]; rfl
 have ba := ab.symm; have ca := ac.symm; have da := ad.symm; have cb := bc.symm; have db := bd.symm; have dc := cd.symm
 have hwr : ∀ l', (wrS s k l').wr k = true := fun _ => hw
 rw [Qp his hst rfl]
 simp only [QQ, Wx, Zz, Gz, KX, FF, LK, LL, Vi, JY, FG, Mx, ev, Xx, PT.get_put, zh, List.getElem?_cons_zero, List.getElem?_cons_succ, z1, Nat.reduceEqDiff, if_true, if_false,
  Nv, HJ, ha, hb, hc, hd, LT, MU, z4, z5, Eg hr hir, Eh hr hir, EH hr hir, EI hr hir, Hn hg, Hf hg hw, Hn (SO hs), Hf (SO hs) (hwr _), MZ, ga, gb, gc, gd, Option.isSome_some,
  Ky, VV, ab, ac, ad, bc, bd, cd, ba, ca, da, cb, db, dc, ne_eq, z0, Yn, zn, zy]
 rfl
end
def K8 (a b : Nat) : Bool := !Nat.beq a b
theorem Wm {a b : Nat} (h : K8 a b = true) : a ≠ b := by
 rintro rfl
 unfold K8 at h
 rw [Nat.beq_refl] at h
 cases h
def Dm (all : List Value) (s : DS) : Option (Value × DS) :=
 match all with
 | [.pointer (some ⟨k, 0, none⟩), .int .i64 (.ofNat a), .int .i64 (.ofNat b), .int .i64 (.ofNat c), .int .i64 (.ofNat d), .int .u32 x, .int .u32 y] =>
  match s.get k with
  | some (.cells (.list l) false) =>
   if s.wr k && Nat.blt a 16 && Nat.blt b 16 && Nat.blt c 16 && Nat.blt d 16 && K8 a b && K8 a c && K8 a d && K8 b c && K8 b d && K8 c d then
    match getN l a, getN l b, getN l c, getN l d with
    | some (.int .u32 va), some (.int .u32 vb), some (.int .u32 vc), some (.int .u32 vd) => some (.tuple #[], wrS s k (CC a b c d x y va vb vc vd l))
    | _, _, _, _ => none
   else none
  | _ => none
 | _ => none
theorem Pd {E : Env} {r st : Nat} (hst : E.fn st = some (Wx r)) (his : E.intr st = none) (hr : E.fn r = some QK) (hir : E.intr r = none)
 {all : List Value} {s s' : DS} {v : Value} (h : Dm all s = some (v, s')) : dcall E 2 (.func (.func st) #[] #[]) all s = some (v, s') := by
 unfold Dm at h
 split at h
 rotate_left
 · cases h
 split at h
 rotate_left
 · cases h
 rename_i hg
 split at h
 rotate_left
 · cases h
 rename_i hc
 simp only [Bool.and_eq_true] at hc
 obtain ⟨⟨⟨⟨⟨⟨⟨⟨⟨⟨hw, ha⟩, hb⟩, hc⟩, hd⟩, ab⟩, ac⟩, ad⟩, bc⟩, bd⟩, cd⟩ := hc
 split at h
 rotate_left
 · cases h
 rename_i ga gb gc gd
 rw [← h]
 exact Nh hst his hr hir hg hw ha hb hc hd (Wm ab) (Wm ac) (Wm ad) (Wm bc) (Wm bd) (Wm cd) ga gb gc gd 0
theorem Tc {P : Program} {E : Env} (hE : FX P E) {g d : Nat} {F : List Value → DS → Option (Value × DS)} (hF : ∀ all s v s', F all s = some (v, s') → dcall E d (.func (.func g) #[] #[]) all s = some (v, s'))
 (hbody : ∀ X w, (callFunc g X).run P w = .ok (.enter g X) w) : Qb P g F := by
 obtain ⟨hfr, hb, hok⟩ := Xo hE d
 refine ⟨fun args s v s' h => hfr _ _ _ _ _ (hF _ _ _ _ h), hbody, ?_⟩
 intro args s v s' h β w args' hargs hR hf
 have he := hok _ _ _ _ _ (hF _ _ _ _ h) β w (.func (.func g) #[] #[]) args' (.func .nil .nil) hargs hR hf
 simp only [Deferred.ofValue, Sem.run_bind, Sem.run_pure, Result.andThen_ok, invoke, hbody] at he
 simp only [Enters] at he
 have e1 : #[] ++ args' ++ #[] = args' := by simp
 rw [e1] at he
 exact callsIn_wide.2 (callsIn_wide.1 he)
theorem M4 {P : Program} (hm : P.follows .mixedOrders = true) {r st : Nat} (hne : Nat.beq r st = false) {fs fr : Func} (h1 : P.funcs[st]? = some fs) (h2 : zS P fs = some (Wx r)) (h3 : P.funcs[r]? = some fr) (h4 : zS P fr = some QK)
 (hbody : ∀ X w, (callFunc st X).run P w = .ok (.enter st X) w) : Qb P st Dm := by
 have hE : FX P { fn := fun k => if Nat.beq k st then some (Wx r) else if Nat.beq k r then some QK else none, intr := fun _ => none, lf := 1 } := by
  refine ⟨hm, fun k df h => ?_, fun k F h => by cases h⟩
  have h : (if Nat.beq k st then some (Wx r) else if Nat.beq k r then some QK else none) = some df := h
  split at h
  · rename_i hk
    cases h
    rw [Nat.eq_of_beq_eq_true hk]
    exact ⟨fs, h1, h2⟩
  · split at h
    · rename_i hk
      cases h
      rw [Nat.eq_of_beq_eq_true hk]
      exact ⟨fr, h3, h4⟩
    · cases h
 refine Tc hE (fun all s v s' h => Pd (r := r) ?_ rfl ?_ rfl h) hbody
 · show (if Nat.beq st st then some (Wx r) else _) = _
   rw [Nat.beq_refl]; rfl
 · show (if Nat.beq r st then some (Wx r) else if Nat.beq r r then some QK else none) = _
   rw [hne, Nat.beq_refl]; rfl
noncomputable section
def xs (l : List Value) (i : Nat) (v : Value) : List Value := Ns.rec (motive := fun _ => List Value) (fun f => f v l) (Si i)
theorem H2 (l : List Value) (i : Nat) (v : Value) : xs l i v = Zb l i v := by
 unfold xs
 rw [Gl]
def xg (l : List Value) (i : Nat) : Option Value := Nt.rec (motive := fun _ => Option Value) (fun f => f l) (nth i)
theorem H3 (l : List Value) (i : Nat) : xg l i = getN l i := by
 unfold xg
 rw [Fc]
def GB (all : List Value) (s : DS) : Option (Value × DS) :=
 match all with
 | [.pointer (some ⟨k, 0, none⟩), .int .i64 (.ofNat a), .int .i64 (.ofNat b), .int .i64 (.ofNat c), .int .i64 (.ofNat d), .int .u32 x, .int .u32 y] =>
  match hp s k with
  | some (.cells (.list l) false) =>
   if s.wr k && Nat.blt a 16 && Nat.blt b 16 && Nat.blt c 16 && Nat.blt d 16 && K8 a b && K8 a c && K8 a d && K8 b c && K8 b d && K8 c d then
    match xg l a, xg l b, xg l c, xg l d with
    | some (.int .u32 va), some (.int .u32 vb), some (.int .u32 vc), some (.int .u32 vd) =>
     (fun (a1 : Int) => (fun (d1 : Int) => (fun (c1 : Int) => (fun (b1 : Int) => (fun (a2 : Int) => (fun (d2 : Int) => (fun (c2 : Int) =>
      Option.rec (motive := fun _ => Option (Value × DS)) none (fun s' => some (.tuple #[], s')) (R6 s k (.cells (.list (xs (xs (xs (xs l a (.int .u32 a2)) d (.int .u32 d2)) c (.int .u32 c2)) b (.int .u32 (JA 7 (KR b1 c2))))) false)))
      (Jh c1 d2)) (JA 8 (KR d1 a2))) (Jh a1 (Jh b1 y))) (JA 12 (KR vb c1))) (Jh vc d1)) (JA 16 (KR vd a1))) (Jh va (Jh vb x))
    | _, _, _, _ => none
   else none
  | _ => none
 | _ => none
theorem Q6 : ∀ (l : List Value) (i : Nat) (u v : Value), Zb (Zb l i u) i v = Zb l i v
 | [], _, _, _ => rfl
 | _ :: _, 0, _, _ => rfl
 | x :: l, i + 1, u, v => congrArg (x :: ·) (Q6 l i u v)
theorem WM : ∀ (l : List Value) {i j : Nat} (u v : Value), i ≠ j → Zb (Zb l i u) j v = Zb (Zb l j v) i u
 | [], _, _, _, _, _ => rfl
 | _ :: _, 0, 0, _, _, h => absurd rfl h
 | _ :: _, 0, _ + 1, _, _, _ => rfl
 | _ :: _, _ + 1, 0, _, _, _ => rfl
 | x :: l, i + 1, j + 1, u, v, h => congrArg (x :: ·) (WM l u v fun e => h (congrArg Nat.succ e))
theorem Nk {a b c d : Nat} (ab : a ≠ b) (ac : a ≠ c) (ad : a ≠ d) (bc : b ≠ c) (bd : b ≠ d) (cd : c ≠ d) (l : List Value) (A1 A2 B1 B2 C1 C2 D1 D2 : Value) :
 Zb (Zb (Zb (Zb (Zb (Zb (Zb (Zb l a A1) d D1) c C1) b B1) a A2) d D2) c C2) b B2 = Zb (Zb (Zb (Zb l a A2) d D2) c C2) b B2 := by
 rw [WM _ B1 A2 ab.symm, WM _ C1 A2 ac.symm, WM _ D1 A2 ad.symm, Q6]
 rw [WM _ B1 D2 bd, WM _ C1 D2 cd, Q6]
 rw [WM _ B1 C2 bc, Q6, Q6]
theorem Nj (all : List Value) (s : DS) : GB all s = Dm all s := by
 unfold GB Dm
 simp only [VU, H3, H2, Ge]
 split
 · split
   · split
     · rename_i hc
       simp only [Bool.and_eq_true] at hc
       obtain ⟨⟨⟨⟨⟨⟨⟨⟨⟨⟨hw, ha⟩, hb⟩, hc⟩, hd⟩, ab⟩, ac⟩, ad⟩, bc⟩, bd⟩, cd⟩ := hc
       split
       · rw [SN hw]
         unfold CC
         simp only [Nk (Wm ab) (Wm ac) (Wm ad) (Wm bc) (Wm bd) (Wm cd)]
       · rfl
     · rfl
   · rfl
 · rfl
theorem Ni {P : Program} (hm : P.follows .mixedOrders = true) {r st : Nat} (hne : Nat.beq r st = false) {fs fr : Func} (h1 : P.funcs[st]? = some fs) (h2 : zS P fs = some (Wx r)) (h3 : P.funcs[r]? = some fr) (h4 : zS P fr = some QK)
 (hbody : ∀ X w, (callFunc st X).run P w = .ok (.enter st X) w) : Qb P st GB := by
 have e : GB = Dm := funext fun all => funext fun s => Nj all s
 rw [e]
 exact M4 hm hne h1 h2 h3 h4 hbody
end
theorem Qb.or {P : Program} {k : Nat} {F G : List Value → DS → Option (Value × DS)} (hF : Qb P k F) (hG : Qb P k G) : Qb P k fun a s => match F a s with | some r => some r | none => G a s := by
 refine ⟨fun a s v s' h => ?_, hF.body, fun a s v s' h => ?_⟩
 · cases hx : F a s with
   | none => simp only [hx] at h; exact hG.frame _ _ _ _ h
   | some r => simp only [hx, z2] at h; subst h; exact hF.frame _ _ _ _ hx
 · cases hx : F a s with
   | none => simp only [hx] at h; exact hG.sound _ _ _ _ h
   | some r => simp only [hx, z2] at h; subst h; exact hF.sound _ _ _ _ hx
end Go.Dx
