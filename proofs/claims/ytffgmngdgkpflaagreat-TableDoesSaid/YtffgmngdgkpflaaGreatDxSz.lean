/- A part. -/
import Derived.Test.YtffgmngdgkpflaaGreatDxCall
import Derived.Test.YtffgmngdgkpflaaGreatDxSorted
import Derived.Test.YtffgmngdgkpflaaGreatDxXx
import Derived.KernelRfl
set_option linter.unusedVariables false
set_option linter.unusedSimpArgs false
set_option linter.unusedSectionVars false
namespace Go.Dx
open Go
theorem Po {call : zy} {o : z9} {rest : List z9} {t : PT Value} {s : DS} (d : Option Nat) (op : DOp) (h : o = ⟨d, op, none, [], false⟩) :
 Xf call (o :: rest) [] t s = (match dop call (ev t) s op with | some (v, s') => Xf call rest [] (YQ t d v) s' | none => none) := by
 subst h
 simp only [Xf, Zk, if_true]
 rfl
theorem LG {call : zy} {rest : List z9} {t : PT Value} {s : DS} (d : Option Nat) (op : DOp) :
 Xf call (⟨d, op, none, [], false⟩ :: rest) [] t s = (match dop call (ev t) s op with | some (v, s') => Xf call rest [] (YQ t d v) s' | none => none) := Po d op rfl
theorem Mo {call : zy} {nt : List ZW} {t : PT Value} {s : DS} : Xf call [] nt t s = some (t, s) := rfl
theorem JJ (l : List Value) (i : Nat) : (Kt l).get i = l[i]? := Gn l i
def Ju (E : Env) (d : Nat) (fn : zp) (args : List Value) (s : DS) : Option (Value × DS) :=
 match zV (dcall E d) E.lf false fn.body ⟨Kt args, s, []⟩ with
 | some (.exit _, _) => none
 | some (_, x) => match ZN x.s x.defers with
  | some s' => match za x.t s' fn.results with
   | some vs => some (zd vs, s')
   | none => none
  | none => none
 | none => none
theorem QM {E : Env} {d g : Nat} {fn : zp} {args : List Value} {s : DS} (hi : E.intr g = none) (hf : E.fn g = some fn) (hl : Nat.ble args.length fn.ntmps = true) :
 dcall E (d + 1) (.func (.func g) #[] #[]) args s = Ju E d fn args s := by
 simp only [dcall, List.append_nil, List.nil_append, hi, hf, hl, if_true]
 rfl
end Go.Dx
set_option maxRecDepth 100000
namespace Go.Dx
open Go
def Vp : zp := { ntmps := 17, results := [.tmp 4], body := .seq (.region [⟨some 4, .mv (.const (.int .u32 0)), none, [], false⟩]) (.seq (.region [⟨some 6, .mv (.tmp 1), none, [], false⟩, ⟨some 7, .cvInt .u64 (.tmp 6), none, [], false⟩, ⟨some 8, .bin .and (.tmp 7) (.const (.int .u64 31)), none, [], false⟩, ⟨some 5, .mv (.tmp 8), none, [], false⟩]) (.seq (.region [⟨some 9, .mv (.tmp 0), none, [], false⟩, ⟨some 10, .mv (.tmp 5), none, [], false⟩, ⟨some 11, .bin .shl (.tmp 9) (.tmp 10), none, [], false⟩, ⟨some 12, .mv (.tmp 0), none, [], false⟩, ⟨some 13, .mv (.tmp 5), none, [], false⟩, ⟨some 14, .bin .sub (.const (.int .u64 32)) (.tmp 13), none, [], false⟩, ⟨some 15, .bin .shr (.tmp 12) (.tmp 14), none, [], false⟩, ⟨some 16, .bin .or (.tmp 11) (.tmp 15), none, [], false⟩, ⟨some 4, .mv (.tmp 16), none, [], false⟩]) (.ret))) }
def J0 (r : Nat) : zp := { ntmps := 134, results := [], body := .seq (.region [⟨some 14, .mv (.tmp 0), none, [], false⟩, ⟨some 15, .mv (.tmp 1), none, [], false⟩, ⟨some 16, .nilck (.tmp 14), none, [], false⟩, ⟨some 17, .ixA 16 1 (.tmp 16) (.tmp 15), none, [], false⟩, ⟨some 18, .ld none (.tmp 17), none, [], false⟩, ⟨some 19, .mv (.tmp 0), none, [], false⟩, ⟨some 20, .mv (.tmp 2), none, [], false⟩, ⟨some 21, .nilck (.tmp 19), none, [], false⟩, ⟨some 22, .ixA 16 1 (.tmp 21) (.tmp 20), none, [], false⟩, ⟨some 23, .ld none (.tmp 22), none, [], false⟩, ⟨some 24, .mv (.tmp 5), none, [], false⟩, ⟨some 25, .bin .add (.tmp 23) (.tmp 24), none, [], false⟩, ⟨some 26, .bin .add (.tmp 18) (.tmp 25), none, [], false⟩, ⟨some 27, .nilck (.tmp 14), none, [], false⟩, ⟨some 28, .ixA 16 1 (.tmp 27) (.tmp 15), none, [], false⟩, ⟨none, .st 1 (.tmp 28) (.tmp 26), none, [], false⟩]) (.seq (.region [⟨some 29, .mv (.tmp 0), none, [], false⟩, ⟨some 30, .mv (.tmp 4), none, [], false⟩, ⟨some 31, .mv (.tmp 0), none, [], false⟩, ⟨some 32, .mv (.tmp 4), none, [], false⟩, ⟨some 33, .nilck (.tmp 31), none, [], false⟩, ⟨some 34, .ixA 16 1 (.tmp 33) (.tmp 32), none, [], false⟩, ⟨some 35, .ld none (.tmp 34), none, [], false⟩, ⟨some 36, .mv (.tmp 0), none, [], false⟩, ⟨some 37, .mv (.tmp 1), none, [], false⟩, ⟨some 38, .nilck (.tmp 36), none, [], false⟩, ⟨some 39, .ixA 16 1 (.tmp 38) (.tmp 37), none, [], false⟩, ⟨some 40, .ld none (.tmp 39), none, [], false⟩, ⟨some 41, .bin .xor (.tmp 35) (.tmp 40), none, [], false⟩, ⟨some 43, .nilck (.tmp 29), none, [], false⟩, ⟨some 42, .call (.func r) [.tmp 41, .const (.int .i64 (-16))], none, [], false⟩, ⟨some 44, .ixA 16 1 (.tmp 43) (.tmp 30), none, [], false⟩, ⟨none, .st 1 (.tmp 44) (.tmp 42), none, [], false⟩]) (.seq (.region [⟨some 45, .mv (.tmp 0), none, [], false⟩, ⟨some 46, .mv (.tmp 3), none, [], false⟩, ⟨some 47, .nilck (.tmp 45), none, [], false⟩, ⟨some 48, .ixA 16 1 (.tmp 47) (.tmp 46), none, [], false⟩, ⟨some 49, .ld none (.tmp 48), none, [], false⟩, ⟨some 50, .mv (.tmp 0), none, [], false⟩, ⟨some 51, .mv (.tmp 4), none, [], false⟩, ⟨some 52, .nilck (.tmp 50), none, [], false⟩, ⟨some 53, .ixA 16 1 (.tmp 52) (.tmp 51), none, [], false⟩, ⟨some 54, .ld none (.tmp 53), none, [], false⟩, ⟨some 55, .bin .add (.tmp 49) (.tmp 54), none, [], false⟩, ⟨some 56, .nilck (.tmp 45), none, [], false⟩, ⟨some 57, .ixA 16 1 (.tmp 56) (.tmp 46), none, [], false⟩, ⟨none, .st 1 (.tmp 57) (.tmp 55), none, [], false⟩]) (.seq (.region [⟨some 58, .mv (.tmp 0), none, [], false⟩, ⟨some 59, .mv (.tmp 2), none, [], false⟩, ⟨some 60, .mv (.tmp 0), none, [], false⟩, ⟨some 61, .mv (.tmp 2), none, [], false⟩, ⟨some 62, .nilck (.tmp 60), none, [], false⟩, ⟨some 63, .ixA 16 1 (.tmp 62) (.tmp 61), none, [], false⟩, ⟨some 64, .ld none (.tmp 63), none, [], false⟩, ⟨some 65, .mv (.tmp 0), none, [], false⟩, ⟨some 66, .mv (.tmp 3), none, [], false⟩, ⟨some 67, .nilck (.tmp 65), none, [], false⟩, ⟨some 68, .ixA 16 1 (.tmp 67) (.tmp 66), none, [], false⟩, ⟨some 69, .ld none (.tmp 68), none, [], false⟩, ⟨some 70, .bin .xor (.tmp 64) (.tmp 69), none, [], false⟩, ⟨some 72, .nilck (.tmp 58), none, [], false⟩, ⟨some 71, .call (.func r) [.tmp 70, .const (.int .i64 (-12))], none, [], false⟩, ⟨some 73, .ixA 16 1 (.tmp 72) (.tmp 59), none, [], false⟩, ⟨none, .st 1 (.tmp 73) (.tmp 71), none, [], false⟩]) (.seq (.region [⟨some 74, .mv (.tmp 0), none, [], false⟩, ⟨some 75, .mv (.tmp 1), none, [], false⟩, ⟨some 76, .nilck (.tmp 74), none, [], false⟩, ⟨some 77, .ixA 16 1 (.tmp 76) (.tmp 75), none, [], false⟩, ⟨some 78, .ld none (.tmp 77), none, [], false⟩, ⟨some 79, .mv (.tmp 0), none, [], false⟩, ⟨some 80, .mv (.tmp 2), none, [], false⟩, ⟨some 81, .nilck (.tmp 79), none, [], false⟩, ⟨some 82, .ixA 16 1 (.tmp 81) (.tmp 80), none, [], false⟩, ⟨some 83, .ld none (.tmp 82), none, [], false⟩, ⟨some 84, .mv (.tmp 6), none, [], false⟩, ⟨some 85, .bin .add (.tmp 83) (.tmp 84), none, [], false⟩, ⟨some 86, .bin .add (.tmp 78) (.tmp 85), none, [], false⟩, ⟨some 87, .nilck (.tmp 74), none, [], false⟩, ⟨some 88, .ixA 16 1 (.tmp 87) (.tmp 75), none, [], false⟩, ⟨none, .st 1 (.tmp 88) (.tmp 86), none, [], false⟩]) (.seq (.region [⟨some 89, .mv (.tmp 0), none, [], false⟩, ⟨some 90, .mv (.tmp 4), none, [], false⟩, ⟨some 91, .mv (.tmp 0), none, [], false⟩, ⟨some 92, .mv (.tmp 4), none, [], false⟩, ⟨some 93, .nilck (.tmp 91), none, [], false⟩, ⟨some 94, .ixA 16 1 (.tmp 93) (.tmp 92), none, [], false⟩, ⟨some 95, .ld none (.tmp 94), none, [], false⟩, ⟨some 96, .mv (.tmp 0), none, [], false⟩, ⟨some 97, .mv (.tmp 1), none, [], false⟩, ⟨some 98, .nilck (.tmp 96), none, [], false⟩, ⟨some 99, .ixA 16 1 (.tmp 98) (.tmp 97), none, [], false⟩, ⟨some 100, .ld none (.tmp 99), none, [], false⟩, ⟨some 101, .bin .xor (.tmp 95) (.tmp 100), none, [], false⟩, ⟨some 103, .nilck (.tmp 89), none, [], false⟩, ⟨some 102, .call (.func r) [.tmp 101, .const (.int .i64 (-8))], none, [], false⟩, ⟨some 104, .ixA 16 1 (.tmp 103) (.tmp 90), none, [], false⟩, ⟨none, .st 1 (.tmp 104) (.tmp 102), none, [], false⟩]) (.seq (.region [⟨some 105, .mv (.tmp 0), none, [], false⟩, ⟨some 106, .mv (.tmp 3), none, [], false⟩, ⟨some 107, .nilck (.tmp 105), none, [], false⟩, ⟨some 108, .ixA 16 1 (.tmp 107) (.tmp 106), none, [], false⟩, ⟨some 109, .ld none (.tmp 108), none, [], false⟩, ⟨some 110, .mv (.tmp 0), none, [], false⟩, ⟨some 111, .mv (.tmp 4), none, [], false⟩, ⟨some 112, .nilck (.tmp 110), none, [], false⟩, ⟨some 113, .ixA 16 1 (.tmp 112) (.tmp 111), none, [], false⟩, ⟨some 114, .ld none (.tmp 113), none, [], false⟩, ⟨some 115, .bin .add (.tmp 109) (.tmp 114), none, [], false⟩, ⟨some 116, .nilck (.tmp 105), none, [], false⟩, ⟨some 117, .ixA 16 1 (.tmp 116) (.tmp 106), none, [], false⟩, ⟨none, .st 1 (.tmp 117) (.tmp 115), none, [], false⟩]) (.region [⟨some 118, .mv (.tmp 0), none, [], false⟩, ⟨some 119, .mv (.tmp 2), none, [], false⟩, ⟨some 120, .mv (.tmp 0), none, [], false⟩, ⟨some 121, .mv (.tmp 2), none, [], false⟩, ⟨some 122, .nilck (.tmp 120), none, [], false⟩, ⟨some 123, .ixA 16 1 (.tmp 122) (.tmp 121), none, [], false⟩, ⟨some 124, .ld none (.tmp 123), none, [], false⟩, ⟨some 125, .mv (.tmp 0), none, [], false⟩, ⟨some 126, .mv (.tmp 3), none, [], false⟩, ⟨some 127, .nilck (.tmp 125), none, [], false⟩, ⟨some 128, .ixA 16 1 (.tmp 127) (.tmp 126), none, [], false⟩, ⟨some 129, .ld none (.tmp 128), none, [], false⟩, ⟨some 130, .bin .xor (.tmp 124) (.tmp 129), none, [], false⟩, ⟨some 132, .nilck (.tmp 118), none, [], false⟩, ⟨some 131, .call (.func r) [.tmp 130, .const (.int .i64 (-7))], none, [], false⟩, ⟨some 133, .ixA 16 1 (.tmp 132) (.tmp 119), none, [], false⟩, ⟨none, .st 1 (.tmp 133) (.tmp 131), none, [], false⟩]))))))) }
def XO (a b : Int) : Int := zf .u32 (a + b)
def Yz (a b : Int) : Int := zf .u32 (Int.ofNat (low .u32 a ^^^ low .u32 b))
def Ww (n : Nat) (x : Int) : Int := zf .u32 (Int.ofNat (low .u32 (zf .u32 (x * Int.ofNat (2 ^ (32 - n)))) ||| low .u32 (x.fdiv (Int.ofNat (2 ^ n)))))
section
variable {E : Env} {r : Nat} (hr : E.fn r = some Vp) (hir : E.intr r = none)
include hr hir
theorem Hs (x : Int) (s : DS) (d : Nat) : dcall E (d + 1) (.func (.func r) #[] #[]) [.int .u32 x, .int .i64 (-16)] s = some (.int .u32 (Ww 16 x), s) := by
 rw [QM hir hr rfl]
 unfold Ju
 kernel_rfl
theorem Ht (x : Int) (s : DS) (d : Nat) : dcall E (d + 1) (.func (.func r) #[] #[]) [.int .u32 x, .int .i64 (-12)] s = some (.int .u32 (Ww 12 x), s) := by
 rw [QM hir hr rfl]
 unfold Ju
 kernel_rfl
theorem Eb (x : Int) (s : DS) (d : Nat) : dcall E (d + 1) (.func (.func r) #[] #[]) [.int .u32 x, .int .i64 (-8)] s = some (.int .u32 (Ww 8 x), s) := by
 rw [QM hir hr rfl]
 unfold Ju
 kernel_rfl
theorem Ec (x : Int) (s : DS) (d : Nat) : dcall E (d + 1) (.func (.func r) #[] #[]) [.int .u32 x, .int .i64 (-7)] s = some (.int .u32 (Ww 7 x), s) := by
 rw [QM hir hr rfl]
 unfold Ju
 kernel_rfl
end
theorem V8.upd_upd {α : Type} (i : Nat) (f g : α → α) (v : V8 α) : V8.upd i f (V8.upd i g v) = V8.upd i (fun z => f (g z)) v := by
 obtain ⟨a, b, c, d, e, p, h, k⟩ := v
 match i with
 | 0 | 1 | 2 | 3 | 4 | 5 | 6 => rfl
 | _ + 7 => rfl
theorem BT.set_set {α : Type} : ∀ (n : Nat) (t : BT α) (k : Nat) (x y : Option α), BT.setAux n (BT.setAux n t k x) k y = BT.setAux n t k y
 | 0, _, _, _, _ => rfl
 | n + 1, t, 0, x, y => by cases t <;> rfl
 | n + 1, t, k + 1, x, y => by
  cases t with
  | nil =>
   simp only [BT.setAux]
   by_cases hm : (k % 2 == 0) = true
   · simp only [hm, if_true, BT.set_set n]
   · simp only [hm, z3, if_false, BT.set_set n]
  | node v a b =>
   simp only [BT.setAux]
   by_cases hm : (k % 2 == 0) = true
   · simp only [hm, if_true, BT.set_set n]
   · simp only [hm, z3, if_false, BT.set_set n]
theorem PT.put_put {α : Type} (t : PT α) (k : Nat) (x y : Option α) : (t.put k x).put k y = t.put k y := by
 obtain ⟨lo, mid, far, big⟩ := t
 by_cases h1 : k < 64
 · simp only [PT.put, h1, if_true, V8.upd_upd]
 · by_cases h2 : k < 4160
   · simp only [PT.put, h1, h2, if_true, if_false, V8.upd_upd]
   · by_cases h3 : k < 36928
     · simp only [PT.put, h1, h2, h3, if_true, if_false, V8.upd_upd]
     · simp only [PT.put, h1, h2, h3, if_false]
       show PT.mk lo mid far (BT.put (BT.put big k x) k y) = _
       unfold BT.put
       rw [BT.set_set]
def L5 (n size : Nat) (x i : Value) : Option Value :=
 match x, zP i with
 | .pointer (some ⟨k, o, none⟩), some j => if Nat.blt j n then some (.pointer (some ⟨k, o + j * size, none⟩)) else none
 | _, _ => none
theorem LX (k : Nat) {j : Nat} (h : Nat.blt j 16 = true) : L5 16 1 (.pointer (some ⟨k, 0, none⟩)) (.int .i64 (Int.ofNat j)) = some (.pointer (some ⟨k, j, none⟩)) := by
 simp only [L5, zP, h, if_true, Nat.zero_add, Nat.mul_one]
def wrS (s : DS) (k : Nat) (l : List Value) : DS := { s with heap := s.heap.put k (some (.cells (.list l) false)) }
theorem Mj (s : DS) (k : Nat) (l l' : List Value) : wrS (wrS s k l) k l' = wrS s k l' := by
 simp only [wrS, PT.put_put]
theorem FV {s : DS} {k : Nat} {l : List Value} (h : (s.get k).isSome = true) : (wrS s k l).get k = some (.cells (.list l) false) := by
 unfold DS.get at h ⊢
 split at h
 · rename_i hc
   simp only [wrS, hc, if_true, PT.get_put]
 · cases h
theorem Mk {s : DS} {k : Nat} {l : List Value} (h : s.wr k = true) : s.set k (.cells (.list l) false) = some (wrS s k l) := by
 simp only [DS.set, h, if_true, wrS]
def ldV (a : Value) (s : DS) : Option Value :=
 match a with
 | .pointer (some ⟨k, off, none⟩) => match s.get k with
  | some (.cells c _) => c.get off
  | _ => none
 | _ => none
theorem L3 {call : zy} {ρ : Operand → Value} {s : DS} {a : Operand} : dop call ρ s (.ld none a) = (match ldV (ρ a) s with | some v => some (v, s) | none => none) := by
 rfl
theorem Ny {call : zy} {ρ : Operand → Value} {s : DS} {size : Nat} {a x : Operand} : dop call ρ s (.st size a x) = (match F2 size (ρ a) (ρ x) s with | some s' => some (zK, s') | none => none) := by
 have h := Mq ρ s size a x
 show zn ρ s (.st size a x) = _
 rw [← h]
 cases F2 size (ρ a) (ρ x) s <;> rfl
theorem Lg {s : DS} {k : Nat} {l : List Value} (hg : s.get k = some (.cells (.list l) false)) (off : Nat) : ldV (.pointer (some ⟨k, off, none⟩)) s = getN l off := by
 simp only [ldV, hg]; rfl
theorem La {s : DS} {k : Nat} {l : List Value} (hg : s.get k = some (.cells (.list l) false)) (hw : s.wr k = true) (off : Nat) (q : IntKind) (v : Int) (h : (getN l off).isSome = true) :
 F2 1 (.pointer (some ⟨k, off, none⟩)) (.int q v) s = some (wrS s k (zk l off (.int q v))) := by
 have hp := ML (.list l) off
 rw [show (Cells.list l).get off = getN l off from rfl, h] at hp
 have hc : (Nat.beq [Value.int q v].length 1 && allOne [Value.int q v]) = true := rfl
 show (if (Nat.beq [Value.int q v].length 1 && allOne [Value.int q v]) = true then s.write k off [Value.int q v] else none) = _
 rw [if_pos hc]
 unfold DS.write
 rw [hg]
 show (if Nat.ble (off + 1) (Cells.list l).size = true then s.set k (.cells (.list (zk l off (.int q v))) false) else none) = _
 rw [if_pos hp.symm]
 exact Mk hw
theorem WM : ∀ {l : List Value} {i : Nat} {v : Value}, (getN l i).isSome = true → getN (zk l i v) i = some v
 | [], _, _, h => by cases h
 | _ :: _, 0, _, _ => rfl
 | _ :: l, i + 1, v, h => WM (l := l) (i := i) h
theorem WA : ∀ {l : List Value} {i j : Nat} {v : Value}, i ≠ j → getN (zk l i v) j = getN l j
 | [], _, _, _, _ => rfl
 | _ :: _, 0, 0, _, h => absurd rfl h
 | _ :: _, 0, _ + 1, _, _ => rfl
 | _ :: _, _ + 1, 0, _, _ => rfl
 | _ :: l, i + 1, j + 1, v, h => WA (l := l) fun e => h (congrArg Nat.succ e)
theorem L2 {call : zy} {ρ : Operand → Value} {s : DS} {x : Operand} : dop call ρ s (.mv x) = some (ρ x, s) := rfl
theorem MQ {call : zy} {ρ : Operand → Value} {s : DS} {x : Operand} : dop call ρ s (.nilck x) = (match Lc (ρ x) with | some v => some (v, s) | none => none) := rfl
theorem MR {call : zy} {ρ : Operand → Value} {s : DS} {n z : Nat} {x i : Operand} : dop call ρ s (.ixA n z x i) = (match L5 n z (ρ x) (ρ i) with | some v => some (v, s) | none => none) := rfl
theorem MS {call : zy} {ρ : Operand → Value} {s : DS} {op : BinOp} {x y : Operand} : dop call ρ s (.bin op x y) = (match zl op (ρ x) (ρ y) with | some v => some (v, s) | none => none) := rfl
theorem Nz {call : zy} {ρ : Operand → Value} {s : DS} {f : Operand} {args : List Operand} : dop call ρ s (.call f args) = call (ρ f) (args.map ρ) s := rfl
theorem M0 (a b : Int) : zl .add (.int .u32 a) (.int .u32 b) = some (.int .u32 (XO a b)) := rfl
theorem Mi (a b : Int) : zl .xor (.int .u32 a) (.int .u32 b) = some (.int .u32 (Yz a b)) := rfl
def Pq (a b c d : Nat) (x y va vb vc vd : Int) (l : List Value) : List Value :=
 (fun (a1 : Int) => (fun (d1 : Int) => (fun (c1 : Int) => (fun (b1 : Int) => (fun (a2 : Int) => (fun (d2 : Int) => (fun (c2 : Int) =>
  zk (zk (zk (zk (zk (zk (zk (zk l a (.int .u32 a1)) d (.int .u32 d1)) c (.int .u32 c1)) b (.int .u32 b1)) a (.int .u32 a2)) d (.int .u32 d2)) c (.int .u32 c2)) b (.int .u32 (Ww 7 (Yz b1 c2))))
  (XO c1 d2)) (Ww 8 (Yz d1 a2))) (XO a1 (XO b1 y))) (Ww 12 (Yz vb c1))) (XO vc d1)) (Ww 16 (Yz vd a1))) (XO va (XO vb x))
section
variable {E : Env} {r st : Nat} (hst : E.fn st = some (J0 r)) (his : E.intr st = none) (hr : E.fn r = some Vp) (hir : E.intr r = none)
include hst his hr hir
set_option maxHeartbeats 4000000 in
theorem Pp {s : DS} {k : Nat} {l : List Value} {a b c d : Nat} {va vb vc vd x y : Int} (hg : s.get k = some (.cells (.list l) false)) (hw : s.wr k = true)
 (ha : Nat.blt a 16 = true) (hb : Nat.blt b 16 = true) (hc : Nat.blt c 16 = true) (hd : Nat.blt d 16 = true)
 (ab : a ≠ b) (ac : a ≠ c) (ad : a ≠ d) (bc : b ≠ c) (bd : b ≠ d) (cd : c ≠ d)
 (ga : getN l a = some (.int .u32 va)) (gb : getN l b = some (.int .u32 vb)) (gc : getN l c = some (.int .u32 vc)) (gd : getN l d = some (.int .u32 vd)) (n : Nat) :
 dcall E (n + 2) (.func (.func st) #[] #[]) [.pointer (some ⟨k, 0, none⟩), .int .i64 (Int.ofNat a), .int .i64 (Int.ofNat b), .int .i64 (Int.ofNat c), .int .i64 (Int.ofNat d), .int .u32 x, .int .u32 y] s = some (.tuple #[], wrS s k (Pq a b c d x y va vb vc vd l)) := by
 have hs : (s.get k).isSome = true := by rw [hg]; rfl
 have ba := ab.symm; have ca := ac.symm; have da := ad.symm; have cb := bc.symm; have db := bd.symm; have dc := cd.symm
 have hwr : ∀ l', (wrS s k l').wr k = true := fun _ => hw
 rw [QM his hst rfl]
 simp only [Ju, J0, zV, LG, Mo, L2, MQ, MR, MS, Nz, L3, Ny, ev, YQ, PT.get_put, JJ, List.getElem?_cons_zero, List.getElem?_cons_succ, z1, Nat.reduceEqDiff, if_true, if_false,
  Lc, LX, ha, hb, hc, hd, M0, Mi, z4, z5, Hs hr hir, Ht hr hir, Eb hr hir, Ec hr hir, Lg hg, La hg hw, Lg (FV hs), La (FV hs) (hwr _), Mj, ga, gb, gc, gd, Option.isSome_some,
  WM, WA, ab, ac, ad, bc, bd, cd, ba, ca, da, cb, db, dc, ne_eq, z0, ZN, za, zd]
 rfl
end
def D0 (a b : Nat) : Bool := !Nat.beq a b
theorem Ji {a b : Nat} (h : D0 a b = true) : a ≠ b := by
 rintro rfl
 unfold D0 at h
 rw [Nat.beq_refl] at h
 cases h
noncomputable section
end
theorem Jc.or {P : Program} {k : Nat} {F G : List Value → DS → Option (Value × DS)} (hF : Jc P k F) (hG : Jc P k G) : Jc P k fun a s => match F a s with | some r => some r | none => G a s := by
 refine ⟨fun a s v s' h => ?_, hF.body, fun a s v s' h => ?_⟩
 · cases hx : F a s with
   | none => simp only [hx] at h; exact hG.frame _ _ _ _ h
   | some r => simp only [hx, z2] at h; subst h; exact hF.frame _ _ _ _ hx
 · cases hx : F a s with
   | none => simp only [hx] at h; exact hG.sound _ _ _ _ h
   | some r => simp only [hx, z2] at h; subst h; exact hF.sound _ _ _ _ hx
end Go.Dx
