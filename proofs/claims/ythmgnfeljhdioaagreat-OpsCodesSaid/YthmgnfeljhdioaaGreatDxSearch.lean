/- A part. -/
import Derived.Test.YthmgnfeljhdioaaGreatDxStir
set_option linter.unusedVariables false
set_option linter.unusedSimpArgs false
set_option linter.unusedSectionVars false
set_option maxRecDepth 100000
set_option maxHeartbeats 2000000
namespace Go.Dx.Search
open Go Go.Dx
def Gf : zf := { ntmps := 6, results := [.tmp 2], body := .seq (.region [⟨some 2, .mv (.const (.bool false)), none, [], false⟩]) (.seq (.region [⟨some 3, .mv (.tmp 0), none, [], false⟩, ⟨some 4, .mv (.tmp 0), none, [], false⟩, ⟨some 5, .bin .neq (.tmp 3) (.tmp 4), none, [], false⟩, ⟨some 2, .mv (.tmp 5), none, [], false⟩]) (.ret)) }
def KA (nn : Nat) : zf := { ntmps := 17, results := [.tmp 4], body := .seq (.region [⟨some 4, .mv (.const (.bool false)), none, [], false⟩]) (.seq (.region [⟨some 5, .mv (.tmp 0), none, [], false⟩, ⟨some 6, .call (.func nn) [.tmp 5], none, [], false⟩, ⟨some 7, .mv (.tmp 6), none, [], false⟩, ⟨some 8, .mv (.tmp 1), some (7, true), [], false⟩, ⟨some 9, .call (.func nn) [.tmp 8], some (7, true), [], false⟩, ⟨some 10, .un .not (.tmp 9), some (7, true), [], false⟩, ⟨some 11, .pick (.tmp 7) (.tmp 10) (.const (.bool false)), none, [], false⟩, ⟨some 12, .mv (.tmp 11), none, [], false⟩, ⟨some 13, .mv (.tmp 0), some (12, false), [], false⟩, ⟨some 14, .mv (.tmp 1), some (12, false), [], false⟩, ⟨some 15, .bin .lss (.tmp 13) (.tmp 14), some (12, false), [], false⟩, ⟨some 16, .pick (.tmp 12) (.const (.bool true)) (.tmp 15), none, [], false⟩, ⟨some 4, .mv (.tmp 16), none, [], false⟩]) (.ret)) }
def body (ls : Nat) : DCode := .seq (.seq (.region [⟨some 13, .mv (.tmp 7), none, [], false⟩, ⟨some 14, .mv (.tmp 8), none, [], false⟩, ⟨some 15, .bin .lss (.tmp 13) (.tmp 14), none, [], false⟩]) (.cond (.tmp 15) (.skip) (.exit 0))) (.block 1 (.seq (.region [⟨some 16, .mv (.tmp 7), none, [], false⟩, ⟨some 17, .mv (.tmp 8), none, [], false⟩, ⟨some 18, .bin .add (.tmp 16) (.tmp 17), none, [], false⟩, ⟨some 19, .cvInt .u64 (.tmp 18), none, [], false⟩, ⟨some 20, .bin .shr (.tmp 19) (.const (.int .u64 1)), none, [], false⟩, ⟨some 21, .cvInt .i64 (.tmp 20), none, [], false⟩, ⟨some 9, .mv (.tmp 21), none, [], false⟩]) (.seq (.region [⟨some 22, .mv (.tmp 0), none, [], false⟩, ⟨some 23, .mv (.tmp 9), none, [], false⟩, ⟨some 24, .ixL 1 (.tmp 22) (.tmp 23), none, [], false⟩, ⟨some 25, .ld none (.tmp 24), none, [], false⟩, ⟨some 26, .mv (.tmp 1), none, [], false⟩, ⟨some 27, .call (.func ls) [.tmp 25, .tmp 26], none, [], false⟩]) (.cond (.tmp 27) (.region [⟨some 28, .mv (.tmp 9), none, [], false⟩, ⟨some 29, .bin .add (.tmp 28) (.const (.int .i64 1)), none, [], false⟩, ⟨some 7, .mv (.tmp 29), none, [], false⟩]) (.region [⟨some 30, .mv (.tmp 9), none, [], false⟩, ⟨some 8, .mv (.tmp 30), none, [], false⟩])))))
section
variable {E : Env} {ls nn : Nat} (h1 : E.fn ls = some (KA nn)) (h2 : E.intr ls = none) (h3 : E.fn nn = some Gf) (h4 : E.intr nn = none)
include h3 h4
theorem Ng (a : Int) (s : DS) (d : Nat) : dcall E (d + 1) (.func (.func nn) #[] #[]) [.int .i64 a] s = some (.bool false, s) := by
 rw [GP h4 h3 rfl]
 simp [Gn, Gf, zw, V2, W4, JY, Gq, Q1, Gr, J6, dop, DOp.cls, zb, zm, zo, ev, ZJ, PT.get_put, zE, Wm, Zb, za, ze, getN]
include h1 h2
theorem Ft (a b : Int) (s : DS) (d : Nat) : dcall E (d + 2) (.func (.func ls) #[] #[]) [.int .i64 a, .int .i64 b] s = some (.bool (decide (a < b)), s) := by
 rw [GP h2 h1 rfl]
 simp [Gn, KA, zw, V2, W4, JY, Gq, Q1, Gr, J6, dop, DOp.cls, zb, zm, zo, ev, ZJ, PT.get_put, zE, Wm, Zb, za, ze, getN, Ng h3 h4]
end
theorem VF {call : zn} {ρ : Operand → Value} {s : DS} {k : IntKind} {x : Operand} : dop call ρ s (.cvInt k x) = (match zb ρ (.cvInt k x) with | some v => some (v, s) | none => none) := rfl
theorem Tb {call : zn} {ρ : Operand → Value} {s : DS} {z : Nat} {x i : Operand} : dop call ρ s (.ixL z x i) = (match zb ρ (.ixL z x i) with | some v => some (v, s) | none => none) := rfl
theorem F2 {call : zn} {ρ : Operand → Value} {s : DS} {x : Operand} : dop call ρ s (.blenL x) = (match zb ρ (.blenL x) with | some v => some (v, s) | none => none) := rfl
theorem F1 {call : zn} {ρ : Operand → Value} {s : DS} {c a b : Operand} : dop call ρ s (.pick c a b) = (match zb ρ (.pick c a b) with | some v => some (v, s) | none => none) := rfl
theorem Pc {call : zn} {ρ : Operand → Value} {s : DS} {op : UnOp} {x : Operand} : dop call ρ s (.un op x) = (match zb ρ (.un op x) with | some v => some (v, s) | none => none) := rfl
theorem Tc {call : zn} {ρ : Operand → Value} {s : DS} {x : Operand} {i : Nat} : dop call ρ s (.ext x i) = (match zb ρ (.ext x i) with | some v => some (v, s) | none => none) := rfl
theorem Z8 (q : IntKind) (n : Nat) : zU (.int q (n : Int)) = some n := rfl
theorem N0 {a b : Nat} (h : a + b < 4611686018427387904) : zt .i64 ((a : Int) + (b : Int)) = ((a + b : Nat) : Int) := by
 rw [zS]
 simp [IntKind.wrap, IntKind.bits, IntKind.signed]
 omega
theorem Lc {a : Nat} (h : a < 4611686018427387904) : zt .u64 (a : Int) = (a : Int) := by
 rw [zS]
 simp [IntKind.wrap, IntKind.bits, IntKind.signed]
 omega
theorem Ld {a : Nat} (h : a < 4611686018427387904) : zt .i64 (a : Int) = (a : Int) := by
 rw [zS]
 simp [IntKind.wrap, IntKind.bits, IntKind.signed]
 omega
theorem sh1 (a : Nat) : Zr .shr .u64 (a : Int) 1 = some (.int .u64 ((a / 2 : Nat) : Int)) := by
 have : Zr .shr .u64 (a : Int) 1 = some (.int .u64 ((a : Int).fdiv 2)) := rfl
 rw [this]
 exact congrArg (fun z => some (Value.int .u64 z)) (FP a 2)
structure At (A key : Value) (n : Nat) (s : DS) (lo hi : Nat) (x : St) : Prop where
 t0 : x.t.get 0 = some A
 t1 : x.t.get 1 = some key
 t6 : x.t.get 6 = some (.int .i64 (n : Int))
 t7 : x.t.get 7 = some (.int .i64 (lo : Int))
 t8 : x.t.get 8 = some (.int .i64 (hi : Int))
 s : x.s = s
 ds : x.defers = []
def M6 (Q : St → Prop) (r : Option (DExit × St)) : Prop := match r with
 | some (.normal, y) => Q y
 | _ => False
section
variable {E : Env} {ls nn : Nat} (h1 : E.fn ls = some (KA nn)) (h2 : E.intr ls = none) (h3 : E.fn nn = some Gf) (h4 : E.intr nn = none)
include h1 h2 h3 h4
theorem round {k off c n lo hi : Nat} {sp : Option Nat} {key : Int} {K : Nat → Int} {s : DS} {d lf : Nat} (hrow : ∀ i, i < n → ldV (.pointer (some ⟨k, off + i, none⟩)) s = some (.int .i64 (K i))) (hn : n < 1000000000) (hlt : lo < hi) (hhi : hi ≤ n)
 (t : PT Value) (g0 : t.get 0 = some (.slice (some ⟨k, off, sp⟩) n c)) (g1 : t.get 1 = some (.int .i64 key)) (g6 : t.get 6 = some (.int .i64 (n : Int))) (g7 : t.get 7 = some (.int .i64 (lo : Int))) (g8 : t.get 8 = some (.int .i64 (hi : Int))) :
 M6 (fun y => if K ((lo + hi) / 2) < key then At (.slice (some ⟨k, off, sp⟩) n c) (.int .i64 key) n s ((lo + hi) / 2 + 1) hi y else At (.slice (some ⟨k, off, sp⟩) n c) (.int .i64 key) n s lo ((lo + hi) / 2) y)
  (zw (dcall E (d + 2)) lf false (body ls) ⟨t, s, []⟩) := by
 have hm : (lo + hi) / 2 < n := by omega
 have hmb : Nat.blt ((lo + hi) / 2) n = true := ZB hm
 have c1 : (lo : Int) < (hi : Int) := by omega
 have r1 := hrow _ hm
 have a1 : zt .i64 ((lo : Int) + (hi : Int)) = ((lo + hi : Nat) : Int) := N0 (by omega)
 have a2 : zt .u64 ((lo + hi : Nat) : Int) = ((lo + hi : Nat) : Int) := Lc (by omega)
 have a3 : zt .i64 (((lo + hi) / 2 : Nat) : Int) = (((lo + hi) / 2 : Nat) : Int) := Ld (by omega)
 have a4 : zt .i64 ((((lo + hi) / 2 : Nat) : Int) + 1) = (((lo + hi) / 2 + 1 : Nat) : Int) := N0 (a := (lo + hi) / 2) (b := 1) (by omega)
 by_cases hk : K ((lo + hi) / 2) < key
 · simp only [hk, if_true]
   simp only [body, zw, V2, W4, JY, Gq, Q1, Gr, J6, VF, Tb, F2, F1, Pc, Tc, zb, zo, zm, ev, ZJ, PT.get_put, zE, z1, Nat.reduceEqDiff, if_true, if_false, z4, z5, Z8, Nat.mul_one, g0, g1, g7, g8, c1, decide_true, a1, a2, a3, a4, sh1, hmb, r1, Ft h1 h2 h3 h4, hk, M6, reduceCtorEq, Nat.reduceBEq]
   exact ⟨by simp [PT.get_put, g0], by simp [PT.get_put, g1], by simp [PT.get_put, g6], by simp [PT.get_put], by simp [PT.get_put, g8], rfl, rfl⟩
 · simp only [hk, if_false]
   simp only [body, zw, V2, W4, JY, Gq, Q1, Gr, J6, VF, Tb, F2, F1, Pc, Tc, zb, zo, zm, ev, ZJ, PT.get_put, zE, z1, Nat.reduceEqDiff, if_true, if_false, z4, z5, Z8, Nat.mul_one, g0, g1, g7, g8, c1, decide_true, a1, a2, a3, a4, sh1, hmb, r1, Ft h1 h2 h3 h4, hk, decide_false, M6, reduceCtorEq, Nat.reduceBEq]
   exact ⟨by simp [PT.get_put, g0], by simp [PT.get_put, g1], by simp [PT.get_put, g6], by simp [PT.get_put, g7], by simp [PT.get_put], rfl, rfl⟩
end
end Go.Dx.Search
