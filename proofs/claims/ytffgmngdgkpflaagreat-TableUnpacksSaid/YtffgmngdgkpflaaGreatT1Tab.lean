/- A part. -/
import Derived.Test.YtffgmngdgkpflaaGreatT1Cd
import Derived.Test.YtffgmngdgkpflaaGreatDxTab
set_option linter.unusedVariables false
set_option linter.unusedSimpArgs false
set_option linter.unusedSectionVars false
set_option maxRecDepth 100000
set_option maxHeartbeats 4000000
namespace Go.Dx.TbA
open Go Go.Dx Go.Dx.Tab Go.Proofs.YtffgmngdgkpflaaGreat
structure FQ (E : Env) : Prop where
 fNew : E.fn 10 = some d10
 iNew : E.intr 10 = none
 fMade : E.fn 34 = some d34
 iMade : E.intr 34 = none
 fLast : E.fn 22 = some d22
 iLast : E.intr 22 = none
 fBegin : E.fn 11 = some d11
 iBegin : E.intr 11 = none
 fFinish : E.fn 13 = some d13
 iFinish : E.intr 13 = none
 fReply : E.fn 21 = some d21
 iReply : E.intr 21 = none
 fmay : E.fn 37 = some d37
 imay : E.intr 37 = none
 foMay : E.fn 68 = some d68
 ioMay : E.intr 68 = none
 fmayR : E.fn 64 = some d64
 imayR : E.intr 64 = none
 fwho : E.fn 99 = some d99
 iwho : E.intr 99 = none
 fwithin : E.fn 100 = some d100
 iwithin : E.intr 100 = none
structure TabAt (s : DS) (t m : Nat) (M : TRs) (clock : Nat) : Prop where
 go : s.get t = some (.cells (.list [.map (some m)]) false)
 wo : s.wr t = true
 gm : s.get m = some (.map (M.map trE) clock)
 wm : s.wr m = true
 ne : t ≠ m
theorem TabAt.keep {s s' : DS} {t m : Nat} {M : TRs} {clock : Nat} {F : List Nat} (c : TabAt s t m M clock) (e : Ext F s s') (h1 : t ∉ F) (h2 : m ∉ F) : TabAt s' t m M clock :=
 ⟨e.keep c.go h1, e.wrs c.wo, e.keep c.gm h2, e.wrs c.wm, c.ne⟩
section
variable {E : Env} (hT : FQ E) {s s' : DS} {d : Nat} {t m clock : Nat} {M : TRs}
include hT
theorem KW (go : s.get t = some (.cells (.list [.map (some m)]) false)) : dcall E (d + 1) (.func (.func 34) #[] #[]) [.pointer (some ⟨t, 0, none⟩)] s = some (.bool true, s) := by
 rw [← V6, zP hT.iMade hT.fMade rfl]
 simp (maxSteps := 4000000) only [zq, zg, zI, za, zf, zl, zo, Zm, Za, ze, zr, YB, zj, zK, zR, Xr, z8, zF, z9, zp, ZS, zu, zi, zm, zd, zb, zc, Nat.reduceEqDiff, z0, zh, List.getElem?_cons_zero, z1, zn, zy, zG, Cells.get, getN, if_true, reduceCtorEq, Bool.not_false, pp, pv, pw, pg, Nat.add_zero, d34, go]
theorem Q4 (n a b : Int) : dcall E (d + 1) (.func (.func 100) #[] #[]) [.int .i64 n, .int .i64 a, .int .i64 b] s = some (.bool (decide (a ≤ n ∧ n ≤ b)), s) := by
 rw [← V6, zP hT.iwithin hT.fwithin rfl]
 by_cases h1 : a ≤ n
 · by_cases h2 : n ≤ b
   · simp (maxSteps := 4000000) only [zq, zg, zI, za, zf, zl, zo, Zm, Za, ze, zr, zj, zK, zR, zV, zp, Zc, zX, zu, zi, zm, zd, zb, zc, Nat.reduceEqDiff, z0, zh, List.getElem?_cons_zero, List.getElem?_cons_succ, z1, zn, zy, Bool.and_self, and_self, if_true, reduceCtorEq, pp, pv, pw, pg, decide_true, d100, h1, h2] <;> simp
   · simp (maxSteps := 4000000) only [zq, zg, zI, za, zf, zl, zo, Zm, Za, ze, zr, zj, zK, zR, zV, zp, Zc, zX, zu, zi, zm, zd, zb, zc, Nat.reduceEqDiff, z0, zh, List.getElem?_cons_zero, List.getElem?_cons_succ, z1, zn, zy, Bool.true_and, true_and, if_true, reduceCtorEq, pp, pv, pw, pg, decide_true, decide_false, d100, h1, h2] <;> simp
 · simp (maxSteps := 4000000) only [zq, zg, zI, za, zf, zl, zo, Zm, Zv, ze, zr, zj, zK, zR, zV, zp, Zc, zX, zu, zi, zm, zd, zb, zc, Nat.reduceEqDiff, z0, zh, List.getElem?_cons_zero, List.getElem?_cons_succ, z1, zn, zy, if_true, if_false, reduceCtorEq, z3, List.nil_append, pp, pv, pw, pg, decide_false, d100, h1] <;> simp
theorem P7 (c n : Int) : dcall E (d + 2) (.func (.func 99) #[] #[]) [.int .i64 c, .int .i64 n] s = some (.bool (decide (Who c n)), s) := by
 rw [← V6, zP hT.iwho hT.fwho rfl]
 have h1 := Q4 hT (d := d) (s := s) c 0 63
 have h2 := Q4 hT (d := d) (s := s) n 1 1099511627776
 by_cases c1 : 0 ≤ c ∧ c ≤ 63
 · rw [decide_eq_true c1] at h1
   simp (maxSteps := 4000000) only [zq, zg, zI, za, zf, zl, zo, Zm, Za, ze, zr, zj, zK, zR, zB, zp, zu, zi, zm, zA, zd, zb, zc, Nat.reduceEqDiff, z0, zh, List.getElem?_cons_zero, List.getElem?_cons_succ, z1, zn, zy, z4, z5, if_true, reduceCtorEq, pp, pv, pw, pg, d99, h1, h2]
   simp only [Who]
   congr 3
   simp [c1.1, c1.2]
 · rw [decide_eq_false c1] at h1
   simp (maxSteps := 4000000) only [zq, zg, zI, za, zf, zl, zo, Zm, Zv, ze, zr, zj, zK, zR, zB, zp, zu, zi, zm, zA, zd, zb, zc, Nat.reduceEqDiff, z0, zh, List.getElem?_cons_zero, z1, zn, zy, z4, z5, if_false, reduceCtorEq, z3, List.nil_append, pp, pv, pw, pg, d99, h1]
   have : ¬ Who c n := fun h => c1 ⟨h.1, h.2.1⟩
   simp [this]
theorem Lg (hG : s.Good) (c n : Int) : W (dcall E (d + 3) (.func (.func 68) #[] #[]) [.agg ⟨[.int .i64 c, .int .i64 n, .slice none 0 0, .slice none 0 0, .int .i64 0]⟩] s) fun r => r.1 = .bool (decide (Who c n)) ∧ Ext [] s r.2 := by
 refine Zh fun Q hQ => ?_
 rw [zP hT.ioMay hT.foMay rfl]
 have h1 := fun S => P7 hT (d := d) (s := S) c n
 have h2 := fun S => Q4 hT (d := d + 1) (s := S) 0 0 1048576
 have e2 : decide ((0 : Int) ≤ 0 ∧ (0 : Int) ≤ 1048576) = true := by decide
 rw [e2] at h2
 have hz : ((0 : Nat) : Int) = 0 := rfl
 cases hw : decide (Who c n) with
 | true =>
  simp only [hw] at h1
  simp (maxSteps := 4000000) (maxDischargeDepth := 8) only [zq, zg, zI, za, zf, zl, zo, Zm, Za, ze, zr, zj, zK, zR, zV, zF, ZE, z9, ZA, zB, zp, Zc, zX, zu, zi, zm, zA, zd, zb, zc, z0, zh, List.getElem?_cons_zero, z1, zn, zy, z4, z5, zG, Cells.get, getN, Nat.zero_add, zx, if_true, pp, pv, pg, Nat.add_zero, decide_true, Int.reduceLE, zk, zJ, Nat.reduceLT, Nat.lt_add_one, d68, hG, h1, h2, hz]
  exact hQ _ ⟨by rw [hw], Ext.new⟩
 | false =>
  simp only [hw] at h1
  simp (maxSteps := 4000000) (maxDischargeDepth := 8) only [zq, zg, zI, za, zf, zl, zo, Zm, Zv, ze, zr, zj, zK, zR, zF, z9, ZA, zB, zp, zu, zi, zm, zA, zd, zb, zc, z0, zh, List.getElem?_cons_zero, z1, zn, zy, z4, z5, zG, Cells.get, getN, Nat.zero_add, zx, if_false, z3, List.nil_append, pp, pv, pg, zQ, Nat.add_zero, zk, zJ, Nat.reduceLT, Nat.lt_add_one, d68, hG, h1, h2, hz]
  exact hQ _ ⟨by rw [hw], Ext.new⟩
theorem M3 (hG : s.Good) (c n : Int) : W (dcall E (d + 4) (.func (.func 37) #[] #[]) [.int .i64 c, .int .i64 n] s) fun r => r.1 = .bool (decide (Who c n)) ∧ Ext [] s r.2 := by
 refine Zh fun Q hQ => ?_
 rw [zP hT.imay hT.fmay rfl]
 simp (maxSteps := 4000000) (maxDischargeDepth := 8) only [zq, zg, za, zf, zl, zo, ze, ZC, zj, zK, Zl, zB, zi, zm, zA, zd, zb, zc, z0, zh, List.getElem?_cons_zero, List.getElem?_cons_succ, z1, z4, z5, Nat.zero_add, Nat.reduceAdd, ZK, List.length_cons, List.length_nil, Bool.and_self, Bool.and_eq_true, Nat.beq_eq, Nat.ble_eq, Nat.reduceLeDiff, and_self, if_true, zM, List.take_zero, List.take_succ_cons, List.drop_succ_cons, List.drop_zero, List.nil_append, List.cons_append, pp, pv, zJ, Nat.reduceLT, Nat.lt_add_one, Nat.succ_pos, d37, hG]
 refine W.mono (Lg hT (d := d) hG c n) ?_
 rintro ⟨v, s1⟩ ⟨h1, X1⟩
 simp only at h1 X1
 subst h1
 simp (maxSteps := 4000000) only [zI, za, zf, zl, zo, ze, zj, zK, zu, zi, zd, zb, z1, zn, zy]
 exact hQ _ ⟨rfl, X1⟩
theorem CB (c : TabAt s t m M clock) (hG : s.Good) (k : Int) : W (dcall E (d + 2) (.func (.func 22) #[] #[]) [.pointer (some ⟨t, 0, none⟩), .int .i64 k] s) fun r => r.1 = .int .i64 (((rowOf M k).map (·.num)).getD 0) ∧ Ext [] s r.2 := by
 have go := c.go
 have gm := c.gm
 have hol := DS.get_lt' go
 have hml := DS.get_lt' gm
 have hmade := KW hT c.go (d := d)
 refine Zh fun Q hQ => ?_
 rw [zP hT.iLast hT.fLast rfl]
 rcases J4 M k 0 with ⟨hf, hr, _⟩ | ⟨j, x, hf, hj, hr, _⟩
 · simp (maxSteps := 4000000) (maxDischargeDepth := 8) only [zq, zg, zD, zO, zI, za, zf, zl, zo, zt, ze, zr, zj, zK, YU, z8, zF, RX, z9, KO, zB, zp, zZ, zu, zi, zm, zA, zd, zb, zc, z0, zh, List.getElem?_cons_zero, List.getElem?_cons_succ, z1, zn, zy, z4, z5, zG, Cells.get, getN, if_true, if_false, Bool.not_true, z3, pp, pv, Nat.add_zero, zJ, Nat.reduceLT, Nat.lt_add_one, Nat.succ_pos, d22, go, gm, hmade, hf, isKey, hG, hol, hml, RX, zp, partOf, getN]
   rw [hr] at hQ
   exact hQ _ ⟨rfl, .refl⟩
 · have hv : (trE x).val = .agg ⟨[.int .i64 x.1.num, .bool x.1.done, .int .i64 x.1.rep.c, .int .i64 x.1.rep.n, .bool x.1.rep.rej, .int .i64 x.1.rep.trap, .int .i64 x.1.rep.v, .int .i64 x.1.rep.gas]⟩ := rfl
   simp (maxSteps := 4000000) (maxDischargeDepth := 8) only [zq, zg, zD, zO, zI, za, zf, zl, zo, zt, ze, zr, zj, zK, YU, z8, zF, RX, z9, KO, zB, zp, zZ, zu, zi, zm, zA, zd, zb, zc, z0, zh, List.getElem?_cons_zero, List.getElem?_cons_succ, z1, zn, zy, z4, z5, zG, Cells.get, getN, Nat.zero_add, if_true, if_false, Bool.not_true, z3, pp, pv, Nat.add_zero, zJ, Nat.reduceLT, Nat.lt_add_one, Nat.succ_pos, d22, go, gm, hmade, hf, hv, isKey, hG, hol, hml, RX, zp, partOf, getN]
   rw [hr] at hQ
   exact hQ _ ⟨rfl, .refl⟩
def D0 (x : Option TR) (n : Int) : List Value := match x with
 | some x => if x.done = true ∧ x.num = n then [.agg ⟨x.rep.cells⟩, .bool true] else [.agg ⟨Rp.zero.cells⟩, .bool false]
 | none => [.agg ⟨Rp.zero.cells⟩, .bool false]
theorem R9 (c : TabAt s t m M clock) (hG : s.Good) (k n : Int) : W (dcall E (d + 2) (.func (.func 21) #[] #[]) [.pointer (some ⟨t, 0, none⟩), .int .i64 k, .int .i64 n] s) fun r => r.1 = .tuple ⟨D0 (rowOf M k) n⟩ ∧ Ext [] s r.2 := by
 have go := c.go
 have gm := c.gm
 have hol := DS.get_lt' go
 have hml := DS.get_lt' gm
 have hmade := KW hT (c.keep (F := []) (Ext.new (o := .cells (.list [.int .i64 0, .int .i64 0, .bool false, .int .i64 0, .int .i64 0, .int .i64 0]) false)) (by simp) (by simp)).go (d := d)
 refine Zh fun Q hQ => ?_
 rw [zP hT.iReply hT.fReply rfl]
 have XR : ∀ o1 o2 o3 o4, Ext [] s ((((s.new o1).new o2).upd (s.next + 1) o3).upd s.next o4) := fun o1 o2 o3 o4 => by
  have y1 : Ext [] s ((s.new o1).new o2) := Ext.new.trans' Ext.new
  have y2 : Ext [s.next, s.next + 1] ((s.new o1).new o2) (((s.new o1).new o2).upd (s.next + 1) o3) := Ext.upd (.inl (by simp))
  have y3 : Ext [s.next, s.next + 1] (((s.new o1).new o2).upd (s.next + 1) o3) ((((s.new o1).new o2).upd (s.next + 1) o3).upd s.next o4) := Ext.upd (.inl (by simp))
  exact y1.trans (y2.trans' y3) (by simp)
 rcases J4 M k 0 with ⟨hf, hr, _⟩ | ⟨j, x, hf, hj, hr, _⟩
 · simp (maxSteps := 4000000) (maxDischargeDepth := 8) only [zq, zg, zD, zO, zI, za, Zf, zf, zl, zo, Zm, Yg, zN, zt, ze, zr, zU, ZC, zj, zK, zR, YU, z8, Zl, zF, z9, KO, Zx, zW, zB, zp, zZ, zu, zi, zm, zA, zd, zE, zb, zc, z0, zh, List.getElem?_cons_zero, List.getElem?_cons_succ, z1, zn, zy, z4, z5, zG, Cells.get, getN, Nat.zero_add, Nat.reduceAdd, Zd, zx, List.length_cons, List.length_nil, zL, zH, Bool.and_self, Bool.and_true, Nat.beq_eq, Nat.ble_eq, Nat.le_refl, if_true, if_false, Bool.not_true, Bool.not_false, z3, DS.wrC, Cells.size, Cells.fillFrom, Cells.set, Zb, zM, List.nil_append, pp, pv, pw, pg, DS.upd_get_self, DS.upd_get_ne, DS.upd_next, DS.upd_wr, Option.map_some, zQ, wrN, Nat.add_zero, DS.read, Cells.take, zk, zw, zC, DS.upd_good, Zi, zJ, ZF, Nat.add_assoc, Nat.reduceLT, Nat.lt_add_one, Nat.succ_pos, d21, go, gm, hmade, hf, isKey, hG, hol, hml]
   rw [hr] at hQ
   exact hQ _ ⟨rfl, XR _ _ _ _⟩
 · have hv : (trE x).val = .agg ⟨[.int .i64 x.1.num, .bool x.1.done, .int .i64 x.1.rep.c, .int .i64 x.1.rep.n, .bool x.1.rep.rej, .int .i64 x.1.rep.trap, .int .i64 x.1.rep.v, .int .i64 x.1.rep.gas]⟩ := rfl
   rw [hr] at hQ
   unfold D0 at hQ
   cases hd : x.1.done with
   | false =>
    rw [hd] at hv
    simp (maxSteps := 4000000) (maxDischargeDepth := 8) only [zq, zg, zD, zO, zI, za, Zf, zf, zl, zo, Zm, Yg, zN, zt, ze, zr, zU, ZC, zj, zK, zR, YU, z8, Zl, zF, z9, KO, Zx, zW, zB, zp, zZ, zu, zi, zm, zA, zd, zE, zb, zc, z0, zh, List.getElem?_cons_zero, List.getElem?_cons_succ, z1, zn, zy, z4, z5, zG, Cells.get, getN, Nat.zero_add, Nat.reduceAdd, Zd, zx, List.length_cons, List.length_nil, zL, zH, Bool.and_self, Bool.and_true, Nat.beq_eq, Nat.ble_eq, Nat.le_refl, if_true, if_false, Bool.not_true, Bool.not_false, z3, DS.wrC, Cells.size, Cells.fillFrom, Cells.set, Zb, zM, List.nil_append, pp, pv, pw, pg, DS.upd_get_self, DS.upd_get_ne, DS.upd_next, DS.upd_wr, Option.map_some, zQ, wrN, Nat.add_zero, DS.read, Cells.take, zk, zw, zC, DS.upd_good, Zi, zJ, ZF, Nat.add_assoc, Nat.reduceLT, Nat.lt_add_one, Nat.succ_pos, d21, go, gm, hmade, hf, hv, isKey, hG, hol, hml]
    exact hQ _ ⟨by simp [hd, Rp.cells, Rp.zero], XR _ _ _ _⟩
   | true =>
    rw [hd] at hv
    by_cases hn : x.1.num = n
    · have hn' : (x.1.num = n) = True := eq_true hn
      simp (maxSteps := 4000000) (maxDischargeDepth := 8) only [zq, zg, zD, zO, zI, za, zf, zl, zo, Zm, zY, zt, ze, zr, zU, zj, zK, zR, zV, YU, z8, zF, z9, KO, Zx, zW, zB, zp, Zc, zX, zZ, zu, zi, zm, zA, zd, zE, zb, zc, z0, zh, List.getElem?_cons_zero, List.getElem?_cons_succ, z1, zn, zy, z4, z5, zG, Cells.get, getN, Nat.zero_add, Nat.reduceAdd, Zd, zx, List.length_cons, List.length_nil, zL, zH, Bool.and_self, Bool.and_true, Nat.beq_eq, Nat.ble_eq, Nat.le_refl, if_true, if_false, Bool.not_true, z3, DS.wrC, Cells.size, Cells.fillFrom, Cells.set, Zb, pp, pv, pw, pg, DS.upd_get_self, DS.upd_get_ne, DS.upd_wr, Option.map_some, zQ, wrN, Yh, ldA, Nat.add_zero, decide_true, DS.read, Cells.take, zk, zw, zC, DS.upd_good, Zi, zJ, ZF, Nat.reduceLT, Nat.lt_add_one, Nat.succ_pos, d21, go, gm, hmade, hf, hv, isKey, hG, hol, hml, hn']
      exact hQ _ ⟨by simp [hd, hn, Rp.cells], XR _ _ _ _⟩
    · simp (maxSteps := 4000000) (maxDischargeDepth := 8) only [zq, zg, zD, zO, zI, za, Zf, zf, zl, zo, Zm, zY, zN, zt, ze, zr, zU, ZC, zj, zK, zR, zV, YU, z8, Zl, zF, z9, KO, Zx, zW, zB, zp, Zc, zX, zZ, zu, zi, zm, zA, zd, zE, zb, zc, z0, zh, List.getElem?_cons_zero, List.getElem?_cons_succ, z1, zn, zy, z4, z5, zG, Cells.get, getN, Nat.zero_add, Nat.reduceAdd, Zd, zx, List.length_cons, List.length_nil, zL, zH, Bool.and_self, Bool.and_true, Nat.beq_eq, Nat.ble_eq, Nat.le_refl, if_true, if_false, Bool.not_true, Bool.not_false, z3, DS.wrC, Cells.size, Cells.fillFrom, Cells.set, Zb, zM, pp, pv, pw, pg, DS.upd_get_self, DS.upd_get_ne, DS.upd_wr, Option.map_some, zQ, wrN, Nat.add_zero, decide_false, DS.read, Cells.take, zk, zw, zC, DS.upd_good, Zi, zJ, ZF, Nat.reduceLT, Nat.lt_add_one, Nat.succ_pos, d21, go, gm, hmade, hf, hv, isKey, hG, hol, hml, hn]
      exact hQ _ ⟨by simp [hd, hn, Rp.cells, Rp.zero], XR _ _ _ _⟩
end
end Go.Dx.TbA
