/- A part. -/
import Derived.Test.YtnmajohhfcgddaaDxStir
set_option linter.unusedVariables false
set_option linter.unusedSimpArgs false
set_option linter.unusedSectionVars false
set_option maxRecDepth 100000
set_option maxHeartbeats 2000000
namespace Go.Dx.Search
open Go Go.Dx
def VJ : Zc := { ntmps := 6, results := [.tmp 2], body := .seq (.region [⟨some 2, .mv (.const (.bool false)), none, [], false⟩]) (.seq (.region [⟨some 3, .mv (.tmp 0), none, [], false⟩, ⟨some 4, .mv (.tmp 0), none, [], false⟩, ⟨some 5, .bin .neq (.tmp 3) (.tmp 4), none, [], false⟩, ⟨some 2, .mv (.tmp 5), none, [], false⟩]) (.ret)) }
def KD (nn : Nat) : Zc := { ntmps := 17, results := [.tmp 4], body := .seq (.region [⟨some 4, .mv (.const (.bool false)), none, [], false⟩]) (.seq (.region [⟨some 5, .mv (.tmp 0), none, [], false⟩, ⟨some 6, .call (.func nn) [.tmp 5], none, [], false⟩, ⟨some 7, .mv (.tmp 6), none, [], false⟩, ⟨some 8, .mv (.tmp 1), some (7, true), [], false⟩, ⟨some 9, .call (.func nn) [.tmp 8], some (7, true), [], false⟩, ⟨some 10, .un .not (.tmp 9), some (7, true), [], false⟩, ⟨some 11, .pick (.tmp 7) (.tmp 10) (.const (.bool false)), none, [], false⟩, ⟨some 12, .mv (.tmp 11), none, [], false⟩, ⟨some 13, .mv (.tmp 0), some (12, false), [], false⟩, ⟨some 14, .mv (.tmp 1), some (12, false), [], false⟩, ⟨some 15, .bin .lss (.tmp 13) (.tmp 14), some (12, false), [], false⟩, ⟨some 16, .pick (.tmp 12) (.const (.bool true)) (.tmp 15), none, [], false⟩, ⟨some 4, .mv (.tmp 16), none, [], false⟩]) (.ret)) }
def body (ls : Nat) : DCode := .seq (.seq (.region [⟨some 13, .mv (.tmp 7), none, [], false⟩, ⟨some 14, .mv (.tmp 8), none, [], false⟩, ⟨some 15, .bin .lss (.tmp 13) (.tmp 14), none, [], false⟩]) (.cond (.tmp 15) (.skip) (.exit 0))) (.block 1 (.seq (.region [⟨some 16, .mv (.tmp 7), none, [], false⟩, ⟨some 17, .mv (.tmp 8), none, [], false⟩, ⟨some 18, .bin .add (.tmp 16) (.tmp 17), none, [], false⟩, ⟨some 19, .cvInt .u64 (.tmp 18), none, [], false⟩, ⟨some 20, .bin .shr (.tmp 19) (.const (.int .u64 1)), none, [], false⟩, ⟨some 21, .cvInt .i64 (.tmp 20), none, [], false⟩, ⟨some 9, .mv (.tmp 21), none, [], false⟩]) (.seq (.region [⟨some 22, .mv (.tmp 0), none, [], false⟩, ⟨some 23, .mv (.tmp 9), none, [], false⟩, ⟨some 24, .ixL 1 (.tmp 22) (.tmp 23), none, [], false⟩, ⟨some 25, .ld none (.tmp 24), none, [], false⟩, ⟨some 26, .mv (.tmp 1), none, [], false⟩, ⟨some 27, .call (.func ls) [.tmp 25, .tmp 26], none, [], false⟩]) (.cond (.tmp 27) (.region [⟨some 28, .mv (.tmp 9), none, [], false⟩, ⟨some 29, .bin .add (.tmp 28) (.const (.int .i64 1)), none, [], false⟩, ⟨some 7, .mv (.tmp 29), none, [], false⟩]) (.region [⟨some 30, .mv (.tmp 9), none, [], false⟩, ⟨some 8, .mv (.tmp 30), none, [], false⟩])))))
def QB : Zc := { ntmps := 6, results := [.tmp 2], body := .seq (.region [⟨some 2, .mv (.const (.bool false)), none, [], false⟩]) (.seq (.region [⟨some 3, .mv (.tmp 0), none, [], false⟩, ⟨some 4, .mv (.tmp 0), none, [], false⟩, ⟨some 5, .bin .neq (.tmp 3) (.tmp 4), none, [], false⟩, ⟨some 2, .mv (.tmp 5), none, [], false⟩]) (.ret)) }
def post (n2 : Nat) : DCode := .seq (.region [⟨some 31, .mv (.tmp 7), none, [], false⟩, ⟨some 32, .mv (.tmp 7), none, [], false⟩, ⟨some 33, .mv (.tmp 6), none, [], false⟩, ⟨some 34, .bin .lss (.tmp 32) (.tmp 33), none, [], false⟩, ⟨some 35, .mv (.tmp 34), none, [], false⟩, ⟨some 36, .mv (.tmp 0), some (35, true), [], false⟩, ⟨some 37, .mv (.tmp 7), some (35, true), [], false⟩, ⟨some 38, .ixL 1 (.tmp 36) (.tmp 37), some (35, true), [], false⟩, ⟨some 39, .ld none (.tmp 38), some (35, true), [], false⟩, ⟨some 40, .mv (.tmp 1), some (35, true), [], false⟩, ⟨some 41, .bin .eql (.tmp 39) (.tmp 40), some (35, true), [], false⟩, ⟨some 42, .mv (.tmp 41), some (35, true), [], false⟩, ⟨some 43, .mv (.tmp 0), some (42, false), [], false⟩, ⟨some 44, .mv (.tmp 7), some (42, false), [], false⟩, ⟨some 45, .ixL 1 (.tmp 43) (.tmp 44), some (42, false), [], false⟩, ⟨some 46, .ld none (.tmp 45), some (42, false), [], false⟩, ⟨some 47, .call (.func n2) [.tmp 46], some (42, false), [], false⟩, ⟨some 48, .mv (.tmp 47), some (42, false), [], false⟩, ⟨some 49, .mv (.tmp 1), some (48, true), [], false⟩, ⟨some 50, .call (.func n2) [.tmp 49], some (48, true), [], false⟩, ⟨some 51, .pick (.tmp 48) (.tmp 50) (.const (.bool false)), some (42, false), [], false⟩, ⟨some 52, .pick (.tmp 42) (.const (.bool true)) (.tmp 51), some (35, true), [], false⟩, ⟨some 53, .pick (.tmp 35) (.tmp 52) (.const (.bool false)), none, [], false⟩, ⟨some 4, .mv (.tmp 31), none, [], false⟩, ⟨some 5, .mv (.tmp 53), none, [], false⟩]) (.ret)
def QH (ls n2 : Nat) : Zc := { ntmps := 54, results := [.tmp 4, .tmp 5], body := .seq (.region [⟨some 4, .mv (.const (.int .i64 0)), none, [], false⟩, ⟨some 5, .mv (.const (.bool false)), none, [], false⟩]) (.seq (.region [⟨some 10, .mv (.tmp 0), none, [], false⟩, ⟨some 11, .blenL (.tmp 10), none, [], false⟩, ⟨some 6, .mv (.tmp 11), none, [], false⟩]) (.seq (.region [⟨some 12, .mv (.tmp 6), none, [], false⟩, ⟨some 7, .mv (.const (.int .i64 0)), none, [], false⟩, ⟨some 8, .mv (.tmp 12), none, [], false⟩]) (.seq (.block 0 (.loop (body ls))) (post n2)))) }
section
variable {E : Env} {ls nn : Nat} (h1 : E.fn ls = some (KD nn)) (h2 : E.intr ls = none) (h3 : E.fn nn = some VJ) (h4 : E.intr nn = none)
include h3 h4
theorem PG (a : Int) (s : DS) (d : Nat) : dcall E (d + 1) (.func (.func nn) #[] #[]) [.int .i64 a] s = some (.bool false, s) := by
 rw [Xy h4 h3 rfl]
 simp [W6, VJ, Zq, Wx, Xs, Xw, WW, XP, QG, WF, dop, DOp.cls, zt, Zb, z7, ev, YQ, PT.get_put, ZL, zn, ZS, zw, zG, getN]
include h1 h2
theorem DA (a b : Int) (s : DS) (d : Nat) : dcall E (d + 2) (.func (.func ls) #[] #[]) [.int .i64 a, .int .i64 b] s = some (.bool (decide (a < b)), s) := by
 rw [Xy h2 h1 rfl]
 simp [W6, KD, Zq, Wx, Xs, Xw, WW, XP, QG, WF, dop, DOp.cls, zt, Zb, z7, ev, YQ, PT.get_put, ZL, zn, ZS, zw, zG, getN, PG h3 h4]
end
theorem Wv {call : Zn} {ρ : Operand → Value} {s : DS} {k : IntKind} {x : Operand} : dop call ρ s (.cvInt k x) = (match zt ρ (.cvInt k x) with | some v => some (v, s) | none => none) := rfl
theorem QR {call : Zn} {ρ : Operand → Value} {s : DS} {z : Nat} {x i : Operand} : dop call ρ s (.ixL z x i) = (match zt ρ (.ixL z x i) with | some v => some (v, s) | none => none) := rfl
theorem Wi {call : Zn} {ρ : Operand → Value} {s : DS} {x : Operand} : dop call ρ s (.blenL x) = (match zt ρ (.blenL x) with | some v => some (v, s) | none => none) := rfl
theorem Qb {call : Zn} {ρ : Operand → Value} {s : DS} {c a b : Operand} : dop call ρ s (.pick c a b) = (match zt ρ (.pick c a b) with | some v => some (v, s) | none => none) := rfl
theorem JO {call : Zn} {ρ : Operand → Value} {s : DS} {op : UnOp} {x : Operand} : dop call ρ s (.un op x) = (match zt ρ (.un op x) with | some v => some (v, s) | none => none) := rfl
theorem QS {call : Zn} {ρ : Operand → Value} {s : DS} {x : Operand} {i : Nat} : dop call ρ s (.ext x i) = (match zt ρ (.ext x i) with | some v => some (v, s) | none => none) := rfl
theorem RA {call : Zn} {ρ : Operand → Value} {s : DS} {off : Nat} {x : Operand} : dop call ρ s (.fadr off x) = (match zt ρ (.fadr off x) with | some v => some (v, s) | none => none) := rfl
theorem zD (q : IntKind) (n : Nat) : ZG (.int q (n : Int)) = some n := rfl
theorem Nk {a b : Nat} (h : a + b < 4611686018427387904) : zE .i64 ((a : Int) + (b : Int)) = ((a + b : Nat) : Int) := by
 rw [Yc]
 simp [IntKind.wrap, IntKind.bits, IntKind.signed]
 omega
theorem N8 {a : Nat} (h : a < 4611686018427387904) : zE .u64 (a : Int) = (a : Int) := by
 rw [Yc]
 simp [IntKind.wrap, IntKind.bits, IntKind.signed]
 omega
theorem N9 {a : Nat} (h : a < 4611686018427387904) : zE .i64 (a : Int) = (a : Int) := by
 rw [Yc]
 simp [IntKind.wrap, IntKind.bits, IntKind.signed]
 omega
theorem sh1 (a : Nat) : Ym .shr .u64 (a : Int) 1 = some (.int .u64 ((a / 2 : Nat) : Int)) := by
 have : Ym .shr .u64 (a : Int) 1 = some (.int .u64 ((a : Int).fdiv 2)) := rfl
 rw [this]
 exact congrArg (fun z => some (Value.int .u64 z)) (Rr a 2)
structure At (A key : Value) (n : Nat) (s : DS) (lo hi : Nat) (x : St) : Prop where
 t0 : x.t.get 0 = some A
 t1 : x.t.get 1 = some key
 t6 : x.t.get 6 = some (.int .i64 (n : Int))
 t7 : x.t.get 7 = some (.int .i64 (lo : Int))
 t8 : x.t.get 8 = some (.int .i64 (hi : Int))
 s : x.s = s
 ds : x.defers = []
def RowAt (s : DS) (A : Value) (n : Nat) (K : Nat → Int) : Prop := (A = .slice none 0 0 ∧ n = 0) ∨ ∃ k off sp c, A = .slice (some ⟨k, off, sp⟩) n c ∧ ∀ i, i < n → ldV (.pointer (some ⟨k, off + i, none⟩)) s = some (.int .i64 (K i))
structure Vw (K : Nat → Int) (n : Nat) (key : Int) (q : Nat) : Prop where
 le : q ≤ n
 lo : ∀ i, i < q → K i < key
 hi : ∀ i, q ≤ i → i < n → ¬ K i < key
theorem Vw.unique {K : Nat → Int} {n : Nat} {key : Int} {q q' : Nat} (h : Vw K n key q) (h' : Vw K n key q') : q = q' := by
 rcases Nat.lt_trichotomy q q' with c | c | c
 · exact absurd (h'.lo q c) (h.hi q (Nat.le_refl _) (by have := h'.le; omega))
 · exact c
 · exact absurd (h.lo q' c) (h'.hi q' (Nat.le_refl _) (by have := h.le; omega))
def Gw (bs : Nat) : Zc := { ntmps := 14, results := [.tmp 4, .tmp 5], body := .seq (.region [⟨some 4, .mv (.const (.int .i64 0)), none, [], false⟩, ⟨some 5, .mv (.const (.bool false)), none, [], false⟩]) (.seq (.region [⟨some 6, .mv (.tmp 0), none, [], false⟩, ⟨some 7, .nilck (.tmp 6), none, [], false⟩, ⟨some 8, .fadr 0 (.tmp 7), none, [], false⟩, ⟨some 9, .ld none (.tmp 8), none, [], false⟩, ⟨some 10, .mv (.tmp 1), none, [], false⟩, ⟨some 11, .call (.func bs) [.tmp 9, .tmp 10], none, [], false⟩, ⟨some 12, .ext (.tmp 11) 0, none, [], false⟩, ⟨some 13, .ext (.tmp 11) 1, none, [], false⟩, ⟨some 4, .mv (.tmp 12), none, [], false⟩, ⟨some 5, .mv (.tmp 13), none, [], false⟩]) (.ret)) }
def CA (r : Option (DExit × St)) : Option (Value × DS) :=
 match r with
 | some (.exit _, _) => none
 | some (_, x) => match ZS x.s x.defers with
  | some s' => match zw x.t s' [.tmp 4, .tmp 5] with
   | some vs => some (zG vs, s')
   | none => none
  | none => none
 | none => none
def Nb (Q : St → Prop) (r : Option (DExit × St)) : Prop := match r with
 | some (.normal, y) => Q y
 | _ => False
def Left (Q : St → Prop) (r : Option (DExit × St)) : Prop := match r with
 | some (.exit 0, y) => Q y
 | _ => False
section
variable {E : Env} {ls nn : Nat} (h1 : E.fn ls = some (KD nn)) (h2 : E.intr ls = none) (h3 : E.fn nn = some VJ) (h4 : E.intr nn = none)
include h1 h2 h3 h4
theorem round {k off c n lo hi : Nat} {sp : Option Nat} {key : Int} {K : Nat → Int} {s : DS} {d lf : Nat} (hrow : ∀ i, i < n → ldV (.pointer (some ⟨k, off + i, none⟩)) s = some (.int .i64 (K i))) (hn : n < 1000000000) (hlt : lo < hi) (hhi : hi ≤ n)
 (t : PT Value) (g0 : t.get 0 = some (.slice (some ⟨k, off, sp⟩) n c)) (g1 : t.get 1 = some (.int .i64 key)) (g6 : t.get 6 = some (.int .i64 (n : Int))) (g7 : t.get 7 = some (.int .i64 (lo : Int))) (g8 : t.get 8 = some (.int .i64 (hi : Int))) :
 Nb (fun y => if K ((lo + hi) / 2) < key then At (.slice (some ⟨k, off, sp⟩) n c) (.int .i64 key) n s ((lo + hi) / 2 + 1) hi y else At (.slice (some ⟨k, off, sp⟩) n c) (.int .i64 key) n s lo ((lo + hi) / 2) y)
  (Zq (dcall E (d + 2)) lf false (body ls) ⟨t, s, []⟩) := by
 have hm : (lo + hi) / 2 < n := by omega
 have hmb : Nat.blt ((lo + hi) / 2) n = true := Wk hm
 have c1 : (lo : Int) < (hi : Int) := by omega
 have r1 := hrow _ hm
 have a1 : zE .i64 ((lo : Int) + (hi : Int)) = ((lo + hi : Nat) : Int) := Nk (by omega)
 have a2 : zE .u64 ((lo + hi : Nat) : Int) = ((lo + hi : Nat) : Int) := N8 (by omega)
 have a3 : zE .i64 (((lo + hi) / 2 : Nat) : Int) = (((lo + hi) / 2 : Nat) : Int) := N9 (by omega)
 have a4 : zE .i64 ((((lo + hi) / 2 : Nat) : Int) + 1) = (((lo + hi) / 2 + 1 : Nat) : Int) := Nk (a := (lo + hi) / 2) (b := 1) (by omega)
 by_cases hk : K ((lo + hi) / 2) < key
 · simp only [hk, if_true]
   simp only [body, Zq, Wx, Xs, Xw, WW, XP, QG, WF, Wv, QR, Wi, Qb, JO, QS, zt, z7, Zb, ev, YQ, PT.get_put, ZL, z1, Nat.reduceEqDiff, if_true, if_false, z4, z5, zD, Nat.mul_one, g0, g1, g7, g8, c1, decide_true, a1, a2, a3, a4, sh1, hmb, r1, DA h1 h2 h3 h4, hk, Nb, reduceCtorEq, Nat.reduceBEq]
   exact ⟨by simp [PT.get_put, g0], by simp [PT.get_put, g1], by simp [PT.get_put, g6], by simp [PT.get_put], by simp [PT.get_put, g8], rfl, rfl⟩
 · simp only [hk, if_false]
   simp only [body, Zq, Wx, Xs, Xw, WW, XP, QG, WF, Wv, QR, Wi, Qb, JO, QS, zt, z7, Zb, ev, YQ, PT.get_put, ZL, z1, Nat.reduceEqDiff, if_true, if_false, z4, z5, zD, Nat.mul_one, g0, g1, g7, g8, c1, decide_true, a1, a2, a3, a4, sh1, hmb, r1, DA h1 h2 h3 h4, hk, decide_false, Nb, reduceCtorEq, Nat.reduceBEq]
   exact ⟨by simp [PT.get_put, g0], by simp [PT.get_put, g1], by simp [PT.get_put, g6], by simp [PT.get_put, g7], by simp [PT.get_put], rfl, rfl⟩
theorem stop {call : Zn} {A : Value} {key : Value} {n lo hi : Nat} {s : DS} {lf : Nat} (hge : ¬ lo < hi)
 (t : PT Value) (g0 : t.get 0 = some A) (g1 : t.get 1 = some key) (g6 : t.get 6 = some (.int .i64 (n : Int))) (g7 : t.get 7 = some (.int .i64 (lo : Int))) (g8 : t.get 8 = some (.int .i64 (hi : Int))) :
 Left (fun y => At A key n s lo hi y) (Zq call lf false (body ls) ⟨t, s, []⟩) := by
 have c1 : ¬ (lo : Int) < (hi : Int) := by omega
 simp only [body, Zq, Wx, Xs, Xw, WW, XP, QG, WF, Wv, QR, Wi, Qb, JO, QS, zt, z7, Zb, ev, YQ, PT.get_put, ZL, z1, Nat.reduceEqDiff, if_true, if_false, z4, z5, zD, Nat.mul_one, g0, g1, g7, g8, c1, decide_false, Left, reduceCtorEq, Nat.reduceBEq]
 exact ⟨by simp [PT.get_put, g0], by simp [PT.get_put, g1], by simp [PT.get_put, g6], by simp [PT.get_put, g7], by simp [PT.get_put, g8], rfl, rfl⟩
theorem Gk {k off c n : Nat} {sp : Option Nat} {key : Int} {K : Nat → Int} {s : DS} {d lf : Nat} (hrow : ∀ i, i < n → ldV (.pointer (some ⟨k, off + i, none⟩)) s = some (.int .i64 (K i))) (hn : n < 1000000000)
 (hmono : ∀ i j, i ≤ j → j < n → K i ≤ K j) :
 ∀ (f lo hi : Nat) (x : St), At (.slice (some ⟨k, off, sp⟩) n c) (.int .i64 key) n s lo hi x → lo ≤ hi → hi ≤ n → hi - lo < f → (∀ i, i < lo → K i < key) → (∀ i, hi ≤ i → i < n → ¬ K i < key) →
  ∃ (q : Nat) (y : St), Wj (Zq (dcall E (d + 2)) lf false (body ls)) f x = some (.exit 0, y) ∧ At (.slice (some ⟨k, off, sp⟩) n c) (.int .i64 key) n s q q y ∧ q ≤ n ∧ (∀ i, i < q → K i < key) ∧ (∀ i, q ≤ i → i < n → ¬ K i < key)
 | 0, lo, hi, x, _, _, _, hf, _, _ => absurd hf (Nat.not_lt_zero _)
 | f + 1, lo, hi, ⟨t, sx, dx⟩, hA, hle, hhi, hf, hL, hU => by
  obtain ⟨g0, g1, g6, g7, g8, rfl, rfl⟩ := hA
  by_cases hlt : lo < hi
  · have hr := round h1 h2 h3 h4 (d := d) (lf := lf) (c := c) (sp := sp) (key := key) hrow hn hlt hhi t g0 g1 g6 g7 g8
    unfold Nb at hr
    split at hr
    · rename_i y hy
      by_cases hk : K ((lo + hi) / 2) < key
      · rw [if_pos hk] at hr
        obtain ⟨q, z, e1, e2⟩ := Gk hrow hn hmono f ((lo + hi) / 2 + 1) hi y hr (by omega) hhi (by omega) (fun i hi' => Int.lt_of_le_of_lt (hmono i ((lo + hi) / 2) (by omega) (by omega)) hk) hU
        refine ⟨q, z, ?_, e2⟩
        simp only [Wj, hy]
        exact e1
      · rw [if_neg hk] at hr
        obtain ⟨q, z, e1, e2⟩ := Gk hrow hn hmono f lo ((lo + hi) / 2) y hr (by omega) (by omega) (by omega) hL (fun i h5 h6 h7 => hk (Int.lt_of_le_of_lt (hmono ((lo + hi) / 2) i h5 h6) h7))
        refine ⟨q, z, ?_, e2⟩
        simp only [Wj, hy]
        exact e1
    · exact hr.elim
  · have hr := stop h1 h2 h3 h4 (call := dcall E (d + 2)) (s := sx) (lf := lf) hlt t g0 g1 g6 g7 g8
    unfold Left at hr
    split at hr
    · rename_i y hy
      have : lo = hi := by omega
      subst this
      refine ⟨lo, y, ?_, hr, hhi, hL, hU⟩
      simp only [Wj, hy]
    · exact hr.elim
theorem Gf {n2 : Nat} (h5 : E.fn n2 = some QB) (h6 : E.intr n2 = none) (a : Int) (s : DS) (d : Nat) : dcall E (d + 1) (.func (.func n2) #[] #[]) [.int .i64 a] s = some (.bool false, s) := by
 rw [Xy h6 h5 rfl]
 simp [W6, QB, Zq, Wx, Xw, dop, DOp.cls, zt, z7, Zb, ev, YQ, PT.get_put, zn, ZS, zw, zG, getN]
theorem SQ {n2 : Nat} (h5 : E.fn n2 = some QB) (h6 : E.intr n2 = none) {k off c n q : Nat} {sp : Option Nat} {key : Int} {K : Nat → Int} {s : DS} {d lf : Nat} (hrow : ∀ i, i < n → ldV (.pointer (some ⟨k, off + i, none⟩)) s = some (.int .i64 (K i)))
 (t : PT Value) (g0 : t.get 0 = some (.slice (some ⟨k, off, sp⟩) n c)) (g1 : t.get 1 = some (.int .i64 key)) (g6 : t.get 6 = some (.int .i64 (n : Int))) (g7 : t.get 7 = some (.int .i64 (q : Int))) (hq : q ≤ n) :
 CA (Zq (dcall E (d + 2)) lf false (post n2) ⟨t, s, []⟩) = some (.tuple #[.int .i64 (q : Int), .bool (decide (q < n ∧ K q = key))], s) := by
 by_cases hqn : q < n
 · have hqb : Nat.blt q n = true := Wk hqn
   have c1 : (q : Int) < (n : Int) := by omega
   have r1 := hrow _ hqn
   by_cases hk : K q = key
   · simp [post, Zq, Wx, Xs, Xw, WW, XP, QG, WF, Wv, QR, Wi, Qb, JO, QS, zt, z7, Zb, ev, YQ, PT.get_put, ZL, z1, Nat.reduceEqDiff, if_true, if_false, z4, z5, zD, Nat.mul_one, Bool.not_true, Bool.not_false, z3, g0, g1, g6, g7, c1, hqb, r1, hk, hqn, CA, ZS, zw, zG, Gf h1 h2 h3 h4 h5 h6]
   · simp [post, Zq, Wx, Xs, Xw, WW, XP, QG, WF, Wv, QR, Wi, Qb, JO, QS, zt, z7, Zb, ev, YQ, PT.get_put, ZL, z1, Nat.reduceEqDiff, if_true, if_false, z4, z5, zD, Nat.mul_one, Bool.not_true, Bool.not_false, z3, g0, g1, g6, g7, c1, hqb, r1, hk, hqn, CA, ZS, zw, zG, Gf h1 h2 h3 h4 h5 h6]
 · have c1 : ¬ (q : Int) < (n : Int) := by omega
   simp [post, Zq, Wx, Xs, Xw, WW, XP, QG, WF, Wv, QR, Wi, Qb, JO, QS, zt, z7, Zb, ev, YQ, PT.get_put, ZL, z1, Nat.reduceEqDiff, if_true, if_false, z4, z5, zD, Nat.mul_one, Bool.not_true, Bool.not_false, z3, g0, g1, g6, g7, c1, hqn, CA, ZS, zw, zG, Gf h1 h2 h3 h4 h5 h6]
theorem RO {n2 bs : Nat} (h5 : E.fn n2 = some QB) (h6 : E.intr n2 = none) (h7 : E.fn bs = some (QH ls n2)) (h8 : E.intr bs = none) {k off c n : Nat} {sp : Option Nat} {key : Int} {K : Nat → Int} {s : DS} {d : Nat}
 (hrow : ∀ i, i < n → ldV (.pointer (some ⟨k, off + i, none⟩)) s = some (.int .i64 (K i))) (hn : n < 1000000000) (hlf : n < E.lf) (hmono : ∀ i j, i ≤ j → j < n → K i ≤ K j) :
 ∃ q : Nat, q ≤ n ∧ (∀ i, i < q → K i < key) ∧ (∀ i, q ≤ i → i < n → ¬ K i < key) ∧
  dcall E (d + 3) (.func (.func bs) #[] #[]) [.slice (some ⟨k, off, sp⟩) n c, .int .i64 key] s = some (.tuple #[.int .i64 (q : Int), .bool (decide (q < n ∧ K q = key))], s) := by
 let T : PT Value := (((((((((Qe [.slice (some ⟨k, off, sp⟩) n c, .int .i64 key]).put 4 (some (.int .i64 0))).put 5 (some (.bool false))).put 10 (some (.slice (some ⟨k, off, sp⟩) n c))).put 11 (some (.int .i64 (n : Int)))).put 6 (some (.int .i64 (n : Int)))).put 12 (some (.int .i64 (n : Int)))).put 7 (some (.int .i64 0))).put 8 (some (.int .i64 (n : Int))))
 have hA : At (.slice (some ⟨k, off, sp⟩) n c) (.int .i64 key) n s 0 n ⟨T, s, []⟩ := ⟨by simp [T, PT.get_put, zn], by simp [T, PT.get_put, zn], by simp [T, PT.get_put], by simp [T, PT.get_put], by simp [T, PT.get_put], rfl, rfl⟩
 obtain ⟨q, y, hy, hB, hq, hL, hU⟩ := Gk h1 h2 h3 h4 (d := d) (lf := E.lf) hrow hn hmono E.lf 0 n ⟨T, s, []⟩ hA (Nat.zero_le _) (Nat.le_refl _) (by omega) (fun i hi => absurd hi (Nat.not_lt_zero _)) (fun i h9 h10 => absurd h10 (Nat.not_lt.2 h9))
 refine ⟨q, hq, hL, hU, ?_⟩
 rw [Xy h8 h7 rfl]
 show CA (Zq (dcall E (d + 2)) E.lf false (QH ls n2).body ⟨Qe [.slice (some ⟨k, off, sp⟩) n c, .int .i64 key], s, []⟩) = _
 have e : Zq (dcall E (d + 2)) E.lf false (QH ls n2).body ⟨Qe [.slice (some ⟨k, off, sp⟩) n c, .int .i64 key], s, []⟩ = Zq (dcall E (d + 2)) E.lf false (post n2) y := by
  simp only [QH, Zq, Wx, Xw, WW, Wi, zt, ev, YQ, PT.get_put, zn, Nat.reduceEqDiff, if_true, if_false, List.getElem?_cons_zero, z1]
  rw [show Wj (Zq (dcall E (d + 2)) E.lf false (body ls)) E.lf ⟨T, s, []⟩ = _ from hy]
  rfl
 rw [e]
 obtain ⟨t, sx, dx⟩ := y
 obtain ⟨g0, g1, g6, g7, g8, rfl, rfl⟩ := hB
 exact SQ h1 h2 h3 h4 h5 h6 hrow t g0 g1 g6 g7 hq
theorem NW {n2 bs : Nat} (h7 : E.fn bs = some (QH ls n2)) (h8 : E.intr bs = none) {key : Int} {s : DS} {d : Nat} (hlf : 0 < E.lf) :
 dcall E (d + 3) (.func (.func bs) #[] #[]) [.slice none 0 0, .int .i64 key] s = some (.tuple #[.int .i64 0, .bool false], s) := by
 obtain ⟨m, hm⟩ : ∃ m, E.lf = m + 1 := ⟨E.lf - 1, by omega⟩
 let T : PT Value := (((((((((Qe [.slice none 0 0, .int .i64 key]).put 4 (some (.int .i64 0))).put 5 (some (.bool false))).put 10 (some (.slice none 0 0))).put 11 (some (.int .i64 ((0 : Nat) : Int)))).put 6 (some (.int .i64 ((0 : Nat) : Int)))).put 12 (some (.int .i64 ((0 : Nat) : Int)))).put 7 (some (.int .i64 0))).put 8 (some (.int .i64 ((0 : Nat) : Int))))
 have hr := stop h1 h2 h3 h4 (call := dcall E (d + 2)) (A := .slice none 0 0) (key := .int .i64 key) (n := 0) (lo := 0) (hi := 0) (s := s) (lf := E.lf) (Nat.lt_irrefl 0) T (by simp [T, PT.get_put, zn]) (by simp [T, PT.get_put, zn]) (by simp [T, PT.get_put]) (by simp [T, PT.get_put]) (by simp [T, PT.get_put])
 unfold Left at hr
 split at hr
 rotate_left
 · exact hr.elim
 rename_i y hy
 rw [Xy h8 h7 rfl]
 show CA (Zq (dcall E (d + 2)) E.lf false (QH ls n2).body ⟨Qe [.slice none 0 0, .int .i64 key], s, []⟩) = _
 have hl : Wj (Zq (dcall E (d + 2)) E.lf false (body ls)) E.lf ⟨T, s, []⟩ = some (.exit 0, y) := by
  conv => lhs; arg 2; rw [hm]
  simp only [Wj, hy]
 have e : Zq (dcall E (d + 2)) E.lf false (QH ls n2).body ⟨Qe [.slice none 0 0, .int .i64 key], s, []⟩ = Zq (dcall E (d + 2)) E.lf false (post n2) y := by
  simp only [QH, Zq, Wx, Xw, WW, Wi, zt, ev, YQ, PT.get_put, zn, Nat.reduceEqDiff, if_true, if_false, List.getElem?_cons_zero, z1]
  rw [show Wj (Zq (dcall E (d + 2)) E.lf false (body ls)) E.lf ⟨T, s, []⟩ = _ from hl]
  rfl
 rw [e]
 obtain ⟨t, sx, dx⟩ := y
 obtain ⟨g0, g1, g6, g7, g8, rfl, rfl⟩ := hr
 simp [post, Zq, Wx, Xs, Xw, WW, XP, QG, WF, Wv, QR, Wi, Qb, JO, QS, zt, z7, Zb, ev, YQ, PT.get_put, ZL, z1, Nat.reduceEqDiff, if_true, if_false, z4, z5, zD, Nat.mul_one, Bool.not_true, Bool.not_false, z3, g0, g1, g6, g7, CA, ZS, zw, zG]
theorem NV {n2 bs : Nat} (h5 : E.fn n2 = some QB) (h6 : E.intr n2 = none) (h7 : E.fn bs = some (QH ls n2)) (h8 : E.intr bs = none) {A : Value} {n : Nat} {key : Int} {K : Nat → Int} {s : DS} (hA : RowAt s A n K) (hn : n < 1000000000) (hlf : n < E.lf) (hmono : ∀ i j, i ≤ j → j < n → K i ≤ K j) :
 ∃ q : Nat, Vw K n key q ∧ ∀ d, dcall E (d + 3) (.func (.func bs) #[] #[]) [A, .int .i64 key] s = some (.tuple #[.int .i64 (q : Int), .bool (decide (q < n ∧ K q = key))], s) := by
 rcases hA with ⟨rfl, rfl⟩ | ⟨k, off, sp, c, rfl, hrow⟩
 · exact ⟨0, ⟨Nat.le_refl _, fun i hi => absurd hi (Nat.not_lt_zero _), fun i _ hi => absurd hi (Nat.not_lt_zero _)⟩, fun d => by simpa using NW h1 h2 h3 h4 h7 h8 (key := key) (s := s) (d := d) (by omega)⟩
 · obtain ⟨q, hq, hL, hU, _⟩ := RO h1 h2 h3 h4 h5 h6 h7 h8 (sp := sp) (c := c) (key := key) (d := 0) hrow hn hlf hmono
   refine ⟨q, ⟨hq, hL, hU⟩, fun d => ?_⟩
   obtain ⟨q', hq', hL', hU', e'⟩ := RO h1 h2 h3 h4 h5 h6 h7 h8 (sp := sp) (c := c) (key := key) (d := d) hrow hn hlf hmono
   have : q = q' := Vw.unique ⟨hq, hL, hU⟩ ⟨hq', hL', hU'⟩
   subst this
   exact e'
theorem Rq {n2 bs fd : Nat} (h5 : E.fn n2 = some QB) (h6 : E.intr n2 = none) (h7 : E.fn bs = some (QH ls n2)) (h8 : E.intr bs = none) (h9 : E.fn fd = some (Gw bs)) (h10 : E.intr fd = none) {A : Value} {p o n : Nat} {key : Int} {K : Nat → Int} {s : DS} (hp : ldV (.pointer (some ⟨p, o, none⟩)) s = some A) (hA : RowAt s A n K) (hn : n < 1000000000) (hlf : n < E.lf) (hmono : ∀ i j, i ≤ j → j < n → K i ≤ K j) :
 ∃ q : Nat, Vw K n key q ∧ ∀ d, dcall E (d + 4) (.func (.func fd) #[] #[]) [.pointer (some ⟨p, o, none⟩), .int .i64 key] s = some (.tuple #[.int .i64 (q : Int), .bool (decide (q < n ∧ K q = key))], s) := by
 obtain ⟨q, hq, hb⟩ := NV h1 h2 h3 h4 h5 h6 h7 h8 (key := key) hA hn hlf hmono
 refine ⟨q, hq, fun d => ?_⟩
 rw [Xy h10 h9 rfl]
 simp [W6, Gw, Zq, Wx, Xs, Xw, WW, XP, QG, Tn, SA, WF, Wv, QR, Wi, Qb, JO, QS, RA, zt, z7, Zb, ev, YQ, PT.get_put, ZL, z1, Nat.reduceEqDiff, if_true, if_false, z4, z5, zD, Nat.mul_one, Bool.not_true, Bool.not_false, z3, zn, hp, hb, getN, ZS, zw, zG]
end
end Go.Dx.Search
