/- A part. -/
import Derived.Test.YtpfkbiaikfbpeaaGreatDxVa
import Derived.Test.YtpfkbiaikfbpeaaGreatDxBl
set_option linter.unusedVariables false
set_option linter.unusedSimpArgs false
set_option linter.unusedSectionVars false
set_option maxRecDepth 100000
set_option maxHeartbeats 8000000
namespace Go.Dx.RpA
open Go Go.Dx Go.Proofs.YtpfkbiaikfbpeaaGreat
theorem Xn : d144 = YR 187 := rfl
theorem Wg : d187 = Wb := rfl
structure RR (E : Env) : Prop where
 ffirst : E.fn 100 = some d100
 ifirst : E.intr 100 = none
 fords : E.fn 143 = some d143
 iords : E.intr 143 = none
 fstir : E.fn 144 = some d144
 istir : E.intr 144 = none
 frot : E.fn 187 = some d187
 irot : E.intr 187 = none
 fwork : E.fn 101 = some d101
 iwork : E.intr 101 = none
 fnew : E.fn 51 = some d51
 inew : E.intr 51 = none
 fadd : E.fn 52 = some d52
 iadd : E.intr 52 = none
 fdig : E.fn 53 = some d53
 idig : E.intr 53 = none
 fsum : E.fn 30 = some d30
 isum : E.intr 30 = none
 lf : 10000 ≤ E.lf
structure MI (S : DS) (M p q o : Nat) (lq : List Value) (t : Int) (last : Bool) (n : Nat) (y : St) : Prop where
 ex : ∃ j : Nat, n = 16 - j ∧ j ≤ 16 ∧ y.defers = [] ∧ (y.t.get 0 = some (.pointer (some ⟨p, 0, none⟩)) ∧ y.t.get 1 = some (.pointer (some ⟨q, o, none⟩)) ∧ y.t.get 2 = some (.int .u64 t) ∧ y.t.get 3 = some (.bool last) ∧ y.t.get 8 = some (.pointer (some ⟨M, 0, none⟩)) ∧ y.t.get 9 = some (.pointer (some ⟨M + 1, 0, none⟩)) ∧ y.t.get 16 = some (.int .i64 (j : Int))) ∧
  Ext [M] S y.s ∧ y.s.get M = some (.cells (.list (mF lq o j)) false)
structure RI (S : DS) (M K p : Nat) (lp lq : List Value) (o : Nat) (t : Int) (last : Bool) (n : Nat) (y : St) : Prop where
 ex : ∃ j : Nat, n = 10 - j ∧ j ≤ 10 ∧ y.defers = [] ∧ (y.t.get 0 = some (.pointer (some ⟨p, 0, none⟩)) ∧ y.t.get 8 = some (.pointer (some ⟨M, 0, none⟩)) ∧ y.t.get 9 = some (.pointer (some ⟨M + 1, 0, none⟩)) ∧ y.t.get 79 = some (.pointer (some ⟨K, 0, none⟩)) ∧ y.t.get 81 = some (.int .i64 (j : Int))) ∧
  Ext [M + 1] S y.s ∧ y.s.get (M + 1) = some (.cells (.list (Q8 (mF lq o 16) (v0F lp t last) j)) false)
structure XI (S : DS) (M p : Nat) (lp vv : List Value) (n : Nat) (y : St) : Prop where
 ex : ∃ j : Nat, n = 8 - j ∧ j ≤ 8 ∧ y.defers = [] ∧ (y.t.get 0 = some (.pointer (some ⟨p, 0, none⟩)) ∧ y.t.get 9 = some (.pointer (some ⟨M + 1, 0, none⟩)) ∧ y.t.get 159 = some (.int .i64 (j : Int))) ∧
  Ext [p] S y.s ∧ y.s.get p = some (.cells (.list (Dz lp vv j)) false)
structure AI (S : DS) (p : Nat) (Fin : List Value) (m : Nat) (y : St) : Prop where
 ex : ∃ (f : Nat) (H : List Value) (n : Nat) (r : List Int) (v : Value), m = r.length ∧ r.length ≤ f ∧ Fh f H r = Fin ∧ HOk H n ∧ y.defers = [] ∧ (y.t.get 0 = some (.pointer (some ⟨p, 0, none⟩)) ∧ y.t.get 1 = some v) ∧
  SlR y.s v r ∧ p ∉ blk v ∧ Ext [p] S y.s ∧ y.s.get p = some (.cells (.list H) false)
structure OI (S : DS) (O D : Nat) (w : List Value) (n : Nat) (y : St) : Prop where
 ex : ∃ j : Nat, n = 8 - j ∧ j ≤ 8 ∧ y.defers = [] ∧ (y.t.get 2 = some (.pointer (some ⟨D, 0, none⟩)) ∧ y.t.get 5 = some (.pointer (some ⟨O, 0, none⟩)) ∧ y.t.get 38 = some (.agg ⟨w⟩) ∧ y.t.get 39 = some (.int .i64 (j : Int))) ∧
  Ext [O] S y.s ∧ y.s.get O = some (.cells (.list (Gi w j)) false)
structure SI (S : DS) (p D b : Nat) (ps : List (Value × List Int)) (m : Nat) (y : St) : Prop where
 ex : ∃ j : Nat, m = ps.length - j ∧ j ≤ ps.length ∧ y.defers = [] ∧ (y.t.get 0 = some (.slice (some ⟨b, 0, none⟩) ps.length ps.length) ∧ y.t.get 2 = some (.pointer (some ⟨D, 0, none⟩)) ∧ y.t.get 3 = some (.pointer (some ⟨p, 0, none⟩)) ∧ y.t.get 7 = some (.slice (some ⟨b, 0, none⟩) ps.length ps.length) ∧ y.t.get 8 = some (.int .i64 (ps.length : Int)) ∧ y.t.get 9 = some (.int .i64 (j : Int))) ∧
  Ext [p] S y.s ∧ y.s.get p = some (.cells (.list (Du ((ps.map Prod.snd).take j))) false) ∧ ∃ n, HOk (Du ((ps.map Prod.snd).take j)) n
section
variable {E : Env} (hB : RR E) {s : DS} {d : Nat}
include hB
theorem F2 (hG : s.Good) : W (dcall E (d + 1) (.func (.func 100) #[] #[]) [] s) fun r => r.1 = .agg ⟨ivL⟩ ∧ Ext [] s r.2 := by
 refine Zz fun Q hQ => ?_
 rw [zF hB.ifirst hB.ffirst rfl]
 simp (maxSteps := 4000000) (maxDischargeDepth := 8) only [zr, zf, zI, zc, zg, zn, zt, ze, Zi, Z3, zi, ZG, Yl, Zp, z9, zx, zl, zk, zd, zJ, zb, za, z0, z1, zo, zz, Cells.get, getN, Nat.zero_add, Nat.reduceAdd, ZA, Zg, zD, List.length_cons, List.length_nil, allOne, zQ, Bool.and_self, Bool.and_true, Bool.and_eq_true, Nat.beq_eq, Nat.ble_eq, Nat.reduceLeDiff, Nat.le_refl, and_self, if_true, DS.wrC, Cells.size, Cells.fillFrom, Cells.set, Zd, zL, List.take_zero, List.take_succ_cons, List.drop_succ_cons, List.drop_zero, List.nil_append, List.cons_append, List.drop_nil, List.append_nil, pp, DS.upd_get_self, Option.map_some, wrN, DS.read, Cells.take, zw, zK, Yq, zZ, Nat.lt_add_one, d100, hG]
 refine hQ _ ⟨rfl, ?_⟩
 exact (Ext.new (F := [])).trans (Ext.upd (F := [s.next]) (.inl (by simp))) (by simp)
theorem Te (hG : s.Good) : W (dcall E (d + 1) (.func (.func 143) #[] #[]) [] s) fun r => r.1 = .pointer (some ⟨s.next, 0, none⟩) ∧ Ext [] s r.2 ∧ r.2.get s.next = some (.cells (.list Mt) false) := by
 refine Zz fun Q hQ => ?_
 rw [zF hB.iords hB.fords rfl]
 simp (maxSteps := 4000000) (maxDischargeDepth := 8) only [zr, zf, zI, zc, zg, zn, zt, ze, Z3, zi, zM, ZG, Z4, zx, zl, zk, zd, zb, za, z0, z1, zo, zz, Nat.zero_add, Nat.reduceAdd, Zg, zD, List.length_cons, List.length_nil, Bool.and_self, Bool.and_eq_true, Nat.beq_eq, Nat.ble_eq, Nat.reduceLeDiff, Nat.le_refl, and_self, if_true, zL, List.take_zero, List.take_succ_cons, List.drop_succ_cons, List.drop_zero, List.nil_append, List.cons_append, List.drop_nil, List.append_nil, pp, pv, zZ, Nat.reduceLT, Nat.lt_add_one, d143, hG]
 refine hQ _ ⟨rfl, Ext.new, ?_⟩
 rw [DS.new_get_self hG]
 rfl
theorem Ci {p q o : Nat} {lp lq : List Value} {t : Int} {last : Bool} (hG : s.Good) (gp : s.get p = some (.cells (.list lp) false)) (wp : s.wr p = true) (gq : s.get q = some (.cells (.list lq) false))
 (hp : UA .u32 0 8 lp) (hq : UA .u8 o 64 lq) :
 W (dcall E (d + 3) (.func (.func 101) #[] #[]) [.pointer (some ⟨p, 0, none⟩), .pointer (some ⟨q, o, none⟩), .int .u64 t, .bool last] s)
  fun r => r.1 = .tuple #[] ∧ Ext [p] s r.2 ∧ r.2.get p = some (.cells (.list (JH lp lq o t last)) false) := by
 have hlf := hB.lf
 have hpl := DS.get_lt' gp
 have hql := DS.get_lt' gq
 refine Zz fun Q hQ => ?_
 rw [zF hB.iwork hB.fwork rfl]
 simp (maxSteps := 4000000) (maxDischargeDepth := 8) only [zr, zf, Zq, zc, zg, zn, zt, ze, zM, Zp, zk, zd, pp, pv, z7, d101, hG]
 obtain ⟨S, hS⟩ : ∃ S : DS, S = (s.new (.cells (.list (z6 .u32 16)) false)).new (.cells (.list (z6 .u32 16)) false) := ⟨_, rfl⟩
 simp only [show [Value.int .u32 0, .int .u32 0, .int .u32 0, .int .u32 0, .int .u32 0, .int .u32 0, .int .u32 0, .int .u32 0, .int .u32 0, .int .u32 0, .int .u32 0, .int .u32 0, .int .u32 0, .int .u32 0, .int .u32 0, .int .u32 0] = z6 .u32 16 from rfl, ← hS]
 have XS : Ext [] s S := by rw [hS]; exact Ext.new.trans' Ext.new
 have hGS := XS.good hG
 have nS : S.next = s.next + 2 := by rw [hS]; rfl
 have gM : S.get s.next = some (.cells (.list (z6 .u32 16)) false) := by rw [hS]; simp (maxSteps := 4000000) (maxDischargeDepth := 8) only [z7, zw, zE, zK, Nat.lt_add_one, hG]
 have gV : S.get (s.next + 1) = some (.cells (.list (z6 .u32 16)) false) := by rw [hS]; simp (maxSteps := 4000000) (maxDischargeDepth := 8) only [z7, zw, zK, hG]
 have wM : S.wr s.next = true := XS.wrs (hG _ (Nat.le_refl _)).2
 have wV : S.wr (s.next + 1) = true := XS.wrs (hG _ (Nat.le_succ _)).2
 obtain ⟨M, hM⟩ : ∃ M, M = s.next := ⟨_, rfl⟩
 simp only [← hM] at nS gM gV wM wV hpl hql ⊢
 refine Xi (MI S M p q o lq t last) 16 (by omega) ⟨0, rfl, by omega, rfl, ?_, .refl, gM⟩ ?_
 · simp (maxSteps := 4000000) only [zb, za, Nat.reduceEqDiff, z0, zq, List.getElem?_cons_zero, List.getElem?_cons_succ, Bool.true_and, true_and, reduceCtorEq]
   rfl
 · rintro n ⟨tt, s2, ds⟩ hn ⟨j, rfl, hj, hds, ⟨g0, g1, g2, g3, g8, g9, g16⟩, X2, gN⟩
   simp only at hds g0 g1 g2 g3 g8 g9 g16 X2 gN
   subst hds
   have wN := X2.wrs wM
   have gq2 := X2.keep (XS.keep gq (by simp)) (by simp; omega)
   by_cases c1 : j < 16
   · have e1 : (j : Int) < 16 := by omega
     have w1 : zR .i64 ((j : Int) + 1) = ((j + 1 : Nat) : Int) := by rw [ZB (by omega) (by omega)]; omega
     have w4 : zR .i64 (4 * (j : Int)) = ((4 * j : Nat) : Int) := by rw [ZB (by omega) (by omega)]; omega
     have w5 : zR .i64 (((4 * j : Nat) : Int) + 4) = ((4 * j + 4 : Nat) : Int) := by rw [ZB (by omega) (by omega)]; omega
     have hbd : ZQ 64 64 (some (.int .i64 ((4 * j : Nat) : Int))) (some (.int .i64 ((4 * j + 4 : Nat) : Int))) none = some (4 * j, 4 * j + 4, 64) := by
      unfold ZQ
      simp only [zW, Nat.ble_eq.mpr (show 4 * j + 4 ≤ 64 by omega), Nat.ble_eq.mpr (show 4 * j ≤ 4 * j + 4 by omega), if_true]
     have c15 : j ≤ 15 := by omega
     have l4 : 4 * j + 4 - 4 * j = 4 := by omega
     have b0 := hq.at (i := 4 * j) (by omega)
     have b1 := hq.at (i := 4 * j + 1) (by omega)
     have b2 := hq.at (i := 4 * j + 2) (by omega)
     have b3 := hq.at (i := 4 * j + 3) (by omega)
     simp only [← Nat.add_assoc] at b0 b1 b2 b3
     simp (maxSteps := 4000000) only [zr, zf, zA, Zq, zO, zc, Zo, zg, ZU, zn, zt, zS, ze, zu, Zi, zi, zM, zT, Jl, Za, GO, Zh, Yl, zm, zY, zP, zl, zk, zd, zJ, zb, za, Nat.reduceEqDiff, z0, z1, zC, Cells.get, Nat.zero_add, ZA, Zg, List.length_cons, List.length_nil, allOne, zQ, Bool.and_self, Bool.and_true, Nat.beq_eq, Nat.ble_eq, Nat.blt_eq, Nat.reduceLeDiff, if_true, DS.wrC, Cells.size, Cells.fillFrom, Cells.set, Option.map_some, Option.map_none, Nat.add_zero, zW, Nat.mul_one, decide_true, Wj, Q2, g0, g1, g2, g3, g8, g9, g16, e1, w1, w4, w5, hbd, Ye, l4, b0, b1, b2, b3, gN, gq2, wN, NW, MU, MQ, MP, Nat.reduceLT, c1, (Pl lq o j).1, Ml, Nz, Ny, c15]
     refine ⟨16 - (j + 1), by omega, ⟨j + 1, rfl, by omega, rfl, by simp (maxSteps := 4000000) only [zb, za, Nat.reduceEqDiff, z0, Bool.and_self, and_self, reduceCtorEq, g0, g1, g2, g3, g8, g9], X2.trans' (Ext.upd (.inl (by simp))), ?_⟩⟩
     simp (maxSteps := 4000000) only [DS.upd_get_self, Option.map_some, gN]
     rfl
   · obtain rfl : j = 16 := by omega
     have e1 : ¬ ((16 : Nat) : Int) < 16 := by omega
     simp (maxSteps := 4000000) only [zr, zf, zA, Xj, zc, Z9, Yb, zg, Ya, zn, zt, zv, ze, zu, zi, zT, zB, zY, zP, zl, zk, zy, zd, zb, z1, z5, if_true, decide_false, g0, g1, g2, g3, g8, g9, g16, e1]
     have XA := XS.trans X2 (by simp [hM])
     have hG2 := X2.good hGS
     have mM := (Pl lq o 16).1
     refine W.mono (F2 hB hG2) ?_
     rintro ⟨v3, s3⟩ ⟨h3, X3⟩
     simp only at h3 X3
     subst h3
     have hG3 := X3.good hG2
     simp (maxSteps := 4000000) (maxDischargeDepth := 8) only [zr, zf, zc, zg, zn, zt, ze, Zi, zi, Yl, Zp, zm, zl, zd, zJ, zb, za, z0, z1, Nat.zero_add, Nat.reduceAdd, ZA, zD, List.length_cons, List.length_nil, allOne, zQ, Bool.and_self, Bool.and_true, Nat.beq_eq, Nat.ble_eq, Nat.le_refl, if_true, DS.wrC, Cells.size, Cells.fillFrom, Cells.set, Zd, wrN, Option.map_none, Q2, zw, zK, Yq, zZ, Xw, Nat.reduceLT, g0, g1, g2, g3, g8, g9, hG3, ivL]
     obtain ⟨S4, hS4⟩ : ∃ S4 : DS, S4 = (s3.new (.cells (.list [.int .u32 0, .int .u32 0, .int .u32 0, .int .u32 0, .int .u32 0, .int .u32 0, .int .u32 0, .int .u32 0]) false)).upd s3.next (.cells (.list [.int .u32 1779033703, .int .u32 3144134277, .int .u32 1013904242, .int .u32 2773480762, .int .u32 1359893119, .int .u32 2600822924, .int .u32 528734635, .int .u32 1541459225]) false) := ⟨_, rfl⟩
     rw [← hS4]
     have X4 : Ext [] s3 S4 := by rw [hS4]; exact (Ext.new (F := [])).trans (Ext.upd (F := [s3.next]) (.inl (by simp))) (by simp)
     have gK4 : S4.get s3.next = some (.cells (.list ivL) false) := by rw [hS4]; simp (maxSteps := 4000000) (maxDischargeDepth := 8) only [DS.upd_get_self, Option.map_some, zw, hG3]; rfl
     have XB := X3.trans' X4
     have gp4 := XB.keep (XA.keep gp (by simp)) (by simp)
     have gV4 := XB.keep (X2.keep gV (by simp)) (by simp)
     have wV4 := XB.wrs (X2.wrs wV)
     simp (maxSteps := 4000000) only [zt, ze, zu, zi, zM, Za, zm, zl, zd, zb, za, Nat.reduceEqDiff, z0, z1, if_true, reduceCtorEq, Option.map_none, Nat.add_zero, Nat.mul_one, Q2, g0, g1, g2, g3, g8, g9, JE, Ye, Fk]
     refine W.mono (K6 gV4 wV4 (by rw [(YP .u32 16).1]; omega) (DF gp4 (by have := hp.1; omega)) hp.cut.one) ?_
     rintro ⟨v5, s5⟩ ⟨h5, X5, g5⟩
     simp only at h5 X5 g5
     subst h5
     rw [M2 hp] at g5
     simp (maxSteps := 4000000) only [zr, zf, zc, zg, zn, zt, ze, zu, zi, zm, zl, zk, zd, zb, za, Nat.reduceEqDiff, z0, z1, Nat.zero_add, if_true, Option.map_some, Option.map_none, Nat.add_zero, Nat.mul_one, Q2, g0, g1, g2, g3, g8, g9, JE, Ry, Ye, Fk]
     have wV5 := X5.wrs wV4
     have n3 : M + 2 ≤ s3.next := by have := X2.le; have := X3.le; omega
     refine W.mono (K6 g5 wV5 (by rw [(hp.cut.app (YP .u32 8)).1]; decide) (DF (X5.keep gK4 (by simp; omega)) (Nat.le_refl 8)) (fun x hx => My.one x (List.mem_of_mem_drop (List.mem_of_mem_take hx)))) ?_
     rintro ⟨v6, s6⟩ ⟨h6, X6, g6⟩
     simp only at h6 X6 g6
     subst h6
     rw [M1 hp] at g6
     have hU := No hp
     have u12 := hU.at (i := 12) (by decide)
     have u13 := hU.at (i := 13) (by decide)
     have u14 := hU.at (i := 14) (by decide)
     have wV6 := X6.wrs wV5
     simp (maxSteps := 4000000) only [zr, zf, zA, zc, zg, zn, zt, ze, zu, Zi, zi, zM, zT, Jl, Zh, Yl, zm, zY, zP, zl, zk, zd, zJ, zb, za, Nat.reduceEqDiff, z0, z1, zC, Cells.get, Nat.zero_add, Nat.reduceAdd, ZA, Zg, List.length_cons, List.length_nil, allOne, zQ, Bool.and_self, Bool.and_true, Nat.beq_eq, Nat.ble_eq, Nat.blt_eq, Nat.reduceLeDiff, if_true, DS.wrC, Cells.size, Cells.fillFrom, Cells.set, DS.upd_get_self, DS.upd_wr, Option.map_some, Nat.mul_one, Wj, g0, g1, g2, g3, g8, g9, g6, wV6, u12, u13, u14, hU.1, RJ, RG, RF, Nat.reduceLT, ZS, QV, ne_eq, Sc]
     refine V3 (K := fun e y => e = .normal ∧ y.defers = [] ∧ (y.t.get 0 = some (.pointer (some ⟨p, 0, none⟩)) ∧ y.t.get 8 = some (.pointer (some ⟨M, 0, none⟩)) ∧ y.t.get 9 = some (.pointer (some ⟨M + 1, 0, none⟩))) ∧ Ext [M + 1] s6 y.s ∧ y.s.get (M + 1) = some (.cells (.list (v0F lp t last)) false)) ?_ ?_
     · cases last
       · simp (maxSteps := 4000000) only [zO, zv, za, Nat.reduceEqDiff, z0, Bool.and_self, Bool.true_and, and_self, true_and, reduceCtorEq, DS.upd_get_self, Option.map_some, g0, g1, g2, g3, g8, g9, g6]
         exact ⟨(Ext.upd (.inl (by simp))).trans' (Ext.upd (.inl (by simp))), rfl⟩
       · simp (maxSteps := 4000000) only [zf, zg, zn, zt, zS, ze, zu, Zi, zi, Jn, Zh, Yl, zm, zP, zl, zk, zd, zJ, zb, za, Nat.reduceEqDiff, z0, z1, zC, Cells.get, Nat.zero_add, Nat.reduceAdd, ZA, Zg, List.length_cons, List.length_nil, allOne, zQ, Bool.and_self, Bool.and_true, Bool.true_and, Nat.beq_eq, Nat.ble_eq, Nat.blt_eq, Nat.reduceLeDiff, and_self, true_and, if_true, reduceCtorEq, DS.wrC, Cells.size, Cells.fillFrom, Cells.set, DS.upd_get_self, DS.upd_wr, Option.map_some, Nat.mul_one, Wj, g0, g1, g2, g3, g8, g9, g6, wV6, u12, u13, u14, hU.1, RJ, RG, RF, Nat.reduceLT, ZS, QV, ne_eq, Sc]
         exact ⟨((Ext.upd (.inl (by simp))).trans' (Ext.upd (.inl (by simp)))).trans' (Ext.upd (.inl (by simp))), rfl⟩
     · rintro e ⟨t7, s7, ds⟩ ⟨rfl, h7, ⟨g0, g8, g9⟩, X7, g7⟩
       simp only at h7 g0 g8 g9 X7 g7
       subst h7
       have hU7 := M3 hp t last
       have XC := (X6.weaken (G := [M + 1]) (fun k hk => .inl hk)).trans' X7
       have XD := (X5.weaken (G := [M + 1]) (fun k hk => .inl hk)).trans' XC
       have hG7 := XD.good (XB.good hG2)
       have gp7 := XD.keep gp4 (by simp; omega)
       have wp7 := XD.wrs (XB.wrs (XA.wrs wp))
       have wV7 := XD.wrs wV4
       have gM7 := XD.keep (XB.keep gN (by simp)) (by simp)
       have n7 : M + 2 ≤ s7.next := by have := XD.le; have := XB.le; have := X2.le; omega
       clear hS4 X4 gK4 hU u12 u13 u14
       simp (maxSteps := 4000000) only [zr, zf, zc, zt, zB, zy, z5]
       refine W.mono (Te hB hG7) ?_
       rintro ⟨v8, s8⟩ ⟨h8, X8, g88⟩
       simp only at h8 X8 g88
       subst h8
       obtain ⟨K, hK⟩ : ∃ K, K = s7.next := ⟨_, rfl⟩
       simp only [← hK] at g88 n7 ⊢
       simp (maxSteps := 4000000) only [Zq, zc, zg, zn, zt, ze, zu, zi, zM, Za, zm, zl, zk, zd, zb, z1, g0, g8, g9]
       refine Xi (RI s8 M K p lp lq o t last) 10 (by omega) ⟨0, rfl, by omega, rfl, ?_, .refl, X8.keep g7 (by simp)⟩ ?_
       · simp (maxSteps := 4000000) only [zb, za, Nat.reduceEqDiff, z0, Bool.true_and, true_and, reduceCtorEq, g0, g8, g9]
         rfl
       · rintro n ⟨t9, s9, ds⟩ hn ⟨j, rfl, hj, hds, ⟨g0, g8, g9, g79, g81⟩, X9, gV9⟩
         simp only at hds g0 g8 g9 g79 g81 X9 gV9
         subst hds
         have hG8 := X8.good hG7
         have hG9 := X9.good hG8
         have hUj := hU7.rounds (m := mF lq o 16) j
         have gM9 := X9.keep (X8.keep gM7 (by simp)) (by simp)
         have wV9 := X9.wrs (X8.wrs wV7)
         by_cases c1 : j < 10
         · have e1 : (j : Int) < 10 := by omega
           have w1 : zR .i64 ((j : Int) + 1) = ((j + 1 : Nat) : Int) := by rw [ZB (by omega) (by omega)]; omega
           have hld : ldA 16 (.pointer (some ⟨K, j * 16, none⟩)) s9 = some (.agg ⟨Vu j⟩) := by
            unfold ldA DS.read
            simp only [X9.keep g88 (by simp; omega), SH j c1]
           have hfill : (Cells.list [.int .u8 0, .int .u8 0, .int .u8 0, .int .u8 0, .int .u8 0, .int .u8 0, .int .u8 0, .int .u8 0, .int .u8 0, .int .u8 0, .int .u8 0, .int .u8 0, .int .u8 0, .int .u8 0, .int .u8 0, .int .u8 0]).fillFrom 0 (Vu j) = .list (Vu j) := by
            rw [Yg _ _ _ (by rw [KX j c1]; decide), KX j c1]
            simp
           simp (maxSteps := 4000000) (maxDischargeDepth := 8) only [zr, zf, zA, Zq, zO, zc, zg, zn, zt, zS, ze, zu, Zi, zi, zT, Za, Yl, Zp, zm, zY, zP, zl, zk, zd, zJ, zb, za, z0, z1, Nat.zero_add, Nat.reduceAdd, ZA, zD, List.length_cons, List.length_nil, Bool.and_true, Nat.beq_eq, Nat.ble_eq, Nat.blt_eq, Nat.le_refl, if_true, DS.wrC, Cells.size, wrN, Q3, zW, Nat.mul_one, decide_true, Wj, zw, zK, Yq, zZ, Xw, Nat.reduceLT, Nat.lt_add_one, g0, g8, g9, g79, g81, e1, w1, c1, hld, hG9, KX j c1, R7 j c1, hfill]
           obtain ⟨T0, hT0⟩ : ∃ T0 : DS, T0 = (s9.new (.cells (.list [.int .u8 0, .int .u8 0, .int .u8 0, .int .u8 0, .int .u8 0, .int .u8 0, .int .u8 0, .int .u8 0, .int .u8 0, .int .u8 0, .int .u8 0, .int .u8 0, .int .u8 0, .int .u8 0, .int .u8 0, .int .u8 0]) false)).upd s9.next (.cells (.list (Vu j)) false) := ⟨_, rfl⟩
           rw [← hT0]
           have Y0 : Ext [] s9 T0 := by rw [hT0]; exact (Ext.new (F := [])).trans (Ext.upd (F := [s9.next]) (.inl (by simp))) (by simp)
           have gR0 : T0.get s9.next = some (.cells (.list (Vu j)) false) := by rw [hT0]; simp (maxSteps := 4000000) (maxDischargeDepth := 8) only [DS.upd_get_self, Option.map_some, zw, hG9]
           have n9 : M + 2 ≤ s9.next := by have := X9.le; have := X8.le; omega
           have gM0 := Y0.keep gM9 (by simp)
           have gV0 := Y0.keep gV9 (by simp)
           have wV0 := Y0.wrs wV9
           have hU0 := hUj
           have ra := fun {i : Nat} (hi : i < 16) => SG c1 hi
           have rl := fun {i : Nat} (hi : i < 16) => Sr j c1 i hi
           have rm := fun {i : Nat} (hi : i < 16) => (Pl lq o 16).at (Sr j c1 i hi)
           simp (maxSteps := 4000000) (maxDischargeDepth := 8) only [zt, ze, zu, zi, Zh, zB, zm, zl, zk, zy, zd, zb, za, z0, z1, z4, z5, zC, Cells.get, Nat.zero_add, Nat.blt_eq, if_true, Nat.add_zero, zW, Nat.mul_one, Wj, zZ, Nat.reduceLT, Nat.lt_add_one, Nat.succ_pos, g0, g8, g9, g79, g81, gR0, gM0, NW, MU, Do, ra (i := 0) (by decide), ra (i := 1) (by decide), rl (i := 0) (by decide), rl (i := 1) (by decide), rm (i := 0) (by decide), rm (i := 1) (by decide), Nat.reduceLT]
           refine W.mono (QM (hB.fstir.trans (congrArg some Xn)) hB.istir (hB.frot.trans (congrArg some Wg)) hB.irot 0 4 8 12 gV0 wV0 hU0 rfl d) ?_
           rintro ⟨v1, T1⟩ ⟨h1, Y1, gV1⟩
           simp only at h1 Y1 gV1
           subst h1
           have gR1 := Y1.keep gR0 (by simp; omega)
           have gM1 := Y1.keep gM0 (by simp)
           have wV1 := Y1.wrs wV0
           have hU1 := hU0.stir 0 4 8 12 (nAt (mF lq o 16) (Qi j 0)) (nAt (mF lq o 16) (Qi j 1))
           simp (maxSteps := 4000000) (maxDischargeDepth := 8) only [zr, zf, zc, zg, zn, zt, ze, zu, zi, Zh, zB, zm, zl, zk, zy, zd, zb, za, z0, z1, z4, z5, zC, Cells.get, Nat.zero_add, Nat.blt_eq, if_true, zW, Nat.mul_one, Wj, zZ, Nat.reduceLT, Nat.lt_add_one, g0, g8, g9, g79, g81, gR1, gM1, MQ, MP, Do, ra (i := 2) (by decide), ra (i := 3) (by decide), rl (i := 2) (by decide), rl (i := 3) (by decide), rm (i := 2) (by decide), rm (i := 3) (by decide), Nat.reduceLT]
           refine W.mono (QM (hB.fstir.trans (congrArg some Xn)) hB.istir (hB.frot.trans (congrArg some Wg)) hB.irot 1 5 9 13 gV1 wV1 hU1 rfl d) ?_
           rintro ⟨v2, T2⟩ ⟨h2, Y2, gV2⟩
           simp only at h2 Y2 gV2
           subst h2
           have gR2 := Y2.keep gR1 (by simp; omega)
           have gM2 := Y2.keep gM1 (by simp)
           have wV2 := Y2.wrs wV1
           have hU2 := hU1.stir 1 5 9 13 (nAt (mF lq o 16) (Qi j 2)) (nAt (mF lq o 16) (Qi j 3))
           simp (maxSteps := 4000000) (maxDischargeDepth := 8) only [zr, zf, zc, zg, zn, zt, ze, zu, zi, Zh, zB, zm, zl, zk, zy, zd, zb, za, z0, z1, z4, z5, zC, Cells.get, Nat.zero_add, Nat.blt_eq, if_true, zW, Nat.mul_one, Wj, zZ, Nat.reduceLT, Nat.lt_add_one, g0, g8, g9, g79, g81, gR2, gM2, Lh, Lg, Do, ra (i := 4) (by decide), ra (i := 5) (by decide), rl (i := 4) (by decide), rl (i := 5) (by decide), rm (i := 4) (by decide), rm (i := 5) (by decide), Nat.reduceLT]
           refine W.mono (QM (hB.fstir.trans (congrArg some Xn)) hB.istir (hB.frot.trans (congrArg some Wg)) hB.irot 2 6 10 14 gV2 wV2 hU2 rfl d) ?_
           rintro ⟨v3, T3⟩ ⟨h3, Y3, gV3⟩
           simp only at h3 Y3 gV3
           subst h3
           have gR3 := Y3.keep gR2 (by simp; omega)
           have gM3 := Y3.keep gM2 (by simp)
           have wV3 := Y3.wrs wV2
           have hU3 := hU2.stir 2 6 10 14 (nAt (mF lq o 16) (Qi j 4)) (nAt (mF lq o 16) (Qi j 5))
           simp (maxSteps := 4000000) (maxDischargeDepth := 8) only [zr, zf, zc, zg, zn, zt, ze, zu, zi, Zh, zB, zm, zl, zk, zy, zd, zb, za, z0, z1, z4, z5, zC, Cells.get, Nat.zero_add, Nat.blt_eq, if_true, zW, Nat.mul_one, Wj, zZ, Nat.reduceLT, Nat.lt_add_one, g0, g8, g9, g79, g81, gR3, gM3, Lf, Le, Do, ra (i := 6) (by decide), ra (i := 7) (by decide), rl (i := 6) (by decide), rl (i := 7) (by decide), rm (i := 6) (by decide), rm (i := 7) (by decide), Nat.reduceLT]
           refine W.mono (QM (hB.fstir.trans (congrArg some Xn)) hB.istir (hB.frot.trans (congrArg some Wg)) hB.irot 3 7 11 15 gV3 wV3 hU3 rfl d) ?_
           rintro ⟨v4, T4⟩ ⟨h4, Y4, gV4⟩
           simp only at h4 Y4 gV4
           subst h4
           have gR4 := Y4.keep gR3 (by simp; omega)
           have gM4 := Y4.keep gM3 (by simp)
           have wV4 := Y4.wrs wV3
           have hU4 := hU3.stir 3 7 11 15 (nAt (mF lq o 16) (Qi j 6)) (nAt (mF lq o 16) (Qi j 7))
           simp (maxSteps := 4000000) (maxDischargeDepth := 8) only [zr, zf, zc, zg, zn, zt, ze, zu, zi, Zh, zB, zm, zl, zk, zy, zd, zb, za, z0, z1, z4, z5, zC, Cells.get, Nat.zero_add, Nat.blt_eq, if_true, zW, Nat.mul_one, Wj, zZ, Nat.reduceLT, Nat.lt_add_one, g0, g8, g9, g79, g81, gR4, gM4, Ld, Lc, Do, ra (i := 8) (by decide), ra (i := 9) (by decide), rl (i := 8) (by decide), rl (i := 9) (by decide), rm (i := 8) (by decide), rm (i := 9) (by decide), Nat.reduceLT]
           refine W.mono (QM (hB.fstir.trans (congrArg some Xn)) hB.istir (hB.frot.trans (congrArg some Wg)) hB.irot 0 5 10 15 gV4 wV4 hU4 rfl d) ?_
           rintro ⟨v5, T5⟩ ⟨h5, Y5, gV5⟩
           simp only at h5 Y5 gV5
           subst h5
           have gR5 := Y5.keep gR4 (by simp; omega)
           have gM5 := Y5.keep gM4 (by simp)
           have wV5 := Y5.wrs wV4
           have hU5 := hU4.stir 0 5 10 15 (nAt (mF lq o 16) (Qi j 8)) (nAt (mF lq o 16) (Qi j 9))
           simp (maxSteps := 4000000) (maxDischargeDepth := 8) only [zr, zf, zc, zg, zn, zt, ze, zu, zi, Zh, zB, zm, zl, zk, zy, zd, zb, za, z0, z1, z4, z5, zC, Cells.get, Nat.zero_add, Nat.blt_eq, if_true, zW, Nat.mul_one, Wj, zZ, Nat.reduceLT, Nat.lt_add_one, g0, g8, g9, g79, g81, gR5, gM5, MT, MS, Do, ra (i := 10) (by decide), ra (i := 11) (by decide), rl (i := 10) (by decide), rl (i := 11) (by decide), rm (i := 10) (by decide), rm (i := 11) (by decide), Nat.reduceLT]
           refine W.mono (QM (hB.fstir.trans (congrArg some Xn)) hB.istir (hB.frot.trans (congrArg some Wg)) hB.irot 1 6 11 12 gV5 wV5 hU5 rfl d) ?_
           rintro ⟨v6, T6⟩ ⟨h6, Y6, gV6⟩
           simp only at h6 Y6 gV6
           subst h6
           have gR6 := Y6.keep gR5 (by simp; omega)
           have gM6 := Y6.keep gM5 (by simp)
           have wV6 := Y6.wrs wV5
           have hU6 := hU5.stir 1 6 11 12 (nAt (mF lq o 16) (Qi j 10)) (nAt (mF lq o 16) (Qi j 11))
           simp (maxSteps := 4000000) (maxDischargeDepth := 8) only [zr, zf, zc, zg, zn, zt, ze, zu, zi, Zh, zB, zm, zl, zk, zy, zd, zb, za, z0, z1, z4, z5, zC, Cells.get, Nat.zero_add, Nat.blt_eq, if_true, zW, Nat.mul_one, Wj, zZ, Nat.reduceLT, Nat.lt_add_one, g0, g8, g9, g79, g81, gR6, gM6, RJ, RG, Do, ra (i := 12) (by decide), ra (i := 13) (by decide), rl (i := 12) (by decide), rl (i := 13) (by decide), rm (i := 12) (by decide), rm (i := 13) (by decide), Nat.reduceLT]
           refine W.mono (QM (hB.fstir.trans (congrArg some Xn)) hB.istir (hB.frot.trans (congrArg some Wg)) hB.irot 2 7 8 13 gV6 wV6 hU6 rfl d) ?_
           rintro ⟨v7, T7⟩ ⟨h7, Y7, gV7⟩
           simp only at h7 Y7 gV7
           subst h7
           have gR7 := Y7.keep gR6 (by simp; omega)
           have gM7 := Y7.keep gM6 (by simp)
           have wV7 := Y7.wrs wV6
           have hU7 := hU6.stir 2 7 8 13 (nAt (mF lq o 16) (Qi j 12)) (nAt (mF lq o 16) (Qi j 13))
           simp (maxSteps := 4000000) (maxDischargeDepth := 8) only [zf, zc, zg, zn, zt, ze, zu, zi, Zh, zB, zm, zl, zk, zy, zd, zb, za, z0, z1, z4, z5, zC, Cells.get, Nat.zero_add, Nat.blt_eq, if_true, zW, Nat.mul_one, Wj, zZ, Nat.reduceLT, Nat.lt_add_one, g0, g8, g9, g79, g81, gR7, gM7, RF, MR, Do, ra (i := 14) (by decide), ra (i := 15) (by decide), rl (i := 14) (by decide), rl (i := 15) (by decide), rm (i := 14) (by decide), rm (i := 15) (by decide), Nat.reduceLT]
           refine W.mono (QM (hB.fstir.trans (congrArg some Xn)) hB.istir (hB.frot.trans (congrArg some Wg)) hB.irot 3 4 9 14 gV7 wV7 hU7 rfl d) ?_
           rintro ⟨v8, T8⟩ ⟨h8, Y8, gV8⟩
           simp only at h8 Y8 gV8
           subst h8
           have gR8 := Y8.keep gR7 (by simp; omega)
           have gM8 := Y8.keep gM7 (by simp)
           have wV8 := Y8.wrs wV7
           have hU8 := hU7.stir 3 4 9 14 (nAt (mF lq o 16) (Qi j 14)) (nAt (mF lq o 16) (Qi j 15))
           simp (maxSteps := 4000000) only [zf, zc, Zo, zg, ZU, zn, zt, ze, zu, zi, zM, zT, zY, zP, zl, zk, zd, zb, za, Nat.reduceEqDiff, z0, z1, if_true, g0, g8, g9, g79, g81, w1]
           refine ⟨10 - (j + 1), by omega, ⟨j + 1, rfl, by omega, rfl, by simp (maxSteps := 4000000) only [zb, za, Nat.reduceEqDiff, z0, Bool.and_self, and_self, reduceCtorEq, g0, g8, g9, g79, g81], X9.trans' ((Y0.weaken (by simp)).trans' (Y1.trans' (Y2.trans' (Y3.trans' (Y4.trans' (Y5.trans' (Y6.trans' (Y7.trans' Y8)))))))), ?_⟩⟩
           exact gV8
         · obtain rfl : j = 10 := by omega
           have e1 : ¬ ((10 : Nat) : Int) < 10 := by omega
           simp (maxSteps := 4000000) only [zr, zf, zA, Zq, Xj, zc, Z9, Yb, zg, Ya, zn, zt, zv, ze, zu, zi, zM, zT, zY, zP, zl, zk, zd, zb, z1, if_true, decide_false, g0, g8, g9, g79, g81, e1]
           have hVV := hU7.rounds (m := mF lq o 16) 10
           have gp9 := X9.keep (X8.keep gp7 (by simp)) (by simp; omega)
           have wp9 := X9.wrs (X8.wrs wp7)
           have hne : ¬ M + 1 = p := by omega
           have hfin : ∀ sf, Ext [p] s9 sf → Ext [p] s sf := fun sf h => by
            have a1 : Ext [] s S4 := XA.trans' XB
            have a2 : Ext [] s s7 := a1.trans XD (by have := XB.le; have := XA.le; simp; omega)
            have a3 : Ext [] s s9 := (a2.trans' X8).trans X9 (by simp; omega)
            exact (a3.weaken (by simp)).trans' h
           refine Xi (XI s9 M p lp (Q8 (mF lq o 16) (v0F lp t last) 10)) 8 (by omega) ⟨0, rfl, by omega, rfl, ?_, .refl, gp9⟩ ?_
           · simp (maxSteps := 4000000) only [zb, za, Nat.reduceEqDiff, z0, Bool.true_and, true_and, reduceCtorEq, g0, g8, g9]
             rfl
           rintro n ⟨ta, sa, ds⟩ hn ⟨j, rfl, hj, hds, ⟨g0, g9, g159⟩, Xa, ga⟩
           simp only at hds g0 g9 g159 Xa ga
           subst hds
           have wpa := Xa.wrs wp9
           by_cases c1 : j < 8
           · have e1 : (j : Int) < 8 := by omega
             have w1 : zR .i64 ((j : Int) + 1) = ((j + 1 : Nat) : Int) := by rw [ZB (by omega) (by omega)]; omega
             have w8 : zR .i64 ((j : Int) + 8) = ((j + 8 : Nat) : Int) := by rw [ZB (by omega) (by omega)]; omega
             have gVa := Xa.keep gV9 (by simp; omega)
             have hpj : getN (Dz lp (Q8 (mF lq o 16) (v0F lp t last) 10) j) j = some (.int .u32 (nAt lp j)) := by
              rw [Ve (Nat.le_refl _)]
              have := hp.at c1
              rwa [Nat.zero_add] at this
             have hv1 := hVV.at (i := j) (by omega)
             have hv2 := hVV.at (i := j + 8) (by omega)
             have l16 : j < 16 := by omega
             have l16' : j + 8 < 16 := by omega
             have hle : j + 1 ≤ lp.length := by have := hp.1; omega
             simp (maxSteps := 4000000) only [zr, zf, zA, Zq, zO, zc, Zo, zg, ZU, zn, zt, zS, ze, zu, Zi, zi, zM, zT, Za, Zh, Yl, zm, zY, zP, zl, zk, zd, zJ, zb, za, Nat.reduceEqDiff, z0, z1, zC, Cells.get, Nat.zero_add, ZA, Zg, List.length_cons, List.length_nil, allOne, zQ, Bool.and_self, Bool.and_true, Nat.beq_eq, Nat.ble_eq, Nat.blt_eq, if_true, reduceCtorEq, DS.wrC, Cells.size, Cells.fillFrom, Cells.set, zW, Nat.mul_one, decide_true, Wj, g0, g9, g159, e1, w1, w8, c1, gVa, ga, hpj, hv1, hv2, l16, l16', wpa, Vd, hle]
             refine ⟨8 - (j + 1), by omega, ⟨j + 1, rfl, by omega, rfl, by simp (maxSteps := 4000000) only [zb, za, Nat.reduceEqDiff, z0, Bool.and_self, and_self, reduceCtorEq, g0, g9], Xa.trans' (Ext.upd (.inl (by simp))), ?_⟩⟩
             simp (maxSteps := 4000000) only [DS.upd_get_self, Option.map_some, ga]
             rfl
           · obtain rfl : j = 8 := by omega
             have e1 : ¬ ((8 : Nat) : Int) < 8 := by omega
             simp (maxSteps := 4000000) only [zr, zf, zA, Xj, zc, Z9, Yb, zg, Ya, zn, zt, zv, ze, zu, zi, zT, zY, zP, ZC, zl, zk, zd, zb, z1, zo, zz, if_true, decide_false, g0, g9, g159, e1]
             exact hQ _ ⟨rfl, hfin _ Xa, ga⟩
theorem NH (hG : s.Good) : W (dcall E (d + 2) (.func (.func 51) #[] #[]) [] s) fun r => ∃ p, r.1 = .pointer (some ⟨p, 0, none⟩) ∧ s.next ≤ p ∧ Ext [] s r.2 ∧ r.2.get p = some (.cells (.list h0L) false) ∧ r.2.wr p = true := by
 refine Zz fun Q hQ => ?_
 rw [zF hB.inew hB.fnew rfl]
 simp (maxSteps := 4000000) only [zr, zf, zc, zg, zn, zt, ze, zM, zB, zk, zy, zd, z5, pp, pv, d51]
 refine W.mono (F2 hB hG) ?_
 rintro ⟨v3, s3⟩ ⟨h3, X3⟩
 simp only at h3 X3
 subst h3
 have hG3 := X3.good hG
 simp (maxSteps := 4000000) (maxDischargeDepth := 8) only [zr, zf, zI, zc, zg, zn, zt, ze, zu, Zi, Z3, zi, zM, zT, Za, ZG, zH, Zh, Yl, Z4, zm, zY, zP, zx, zl, zk, zd, zJ, zb, za, z0, z1, zo, zz, zC, Cells.get, getN, Nat.zero_add, Nat.reduceAdd, ZA, Zg, zD, List.length_cons, List.length_nil, allOne, zQ, Bool.and_self, Bool.and_true, Bool.and_eq_true, Nat.beq_eq, Nat.ble_eq, Nat.blt_eq, Nat.reduceLeDiff, Nat.le_refl, and_self, if_true, DS.wrC, Cells.size, Cells.fillFrom, Cells.set, Zd, zL, List.take_zero, List.drop_succ_cons, List.drop_zero, List.nil_append, List.cons_append, wrN, Nat.add_zero, Nat.mul_one, Wj, zw, zK, Yq, zZ, Nat.reduceLT, Nat.lt_add_one, Nat.succ_pos, hG3, ivL, NW]
 refine hQ _ ⟨s3.next, rfl, X3.le, X3.trans' ((Ext.new (F := [])).trans (Ext.upd (F := [s3.next]) (.inl (by simp))) (by simp)), ?_, ?_⟩
 · rw [DS.upd_get_self, DS.new_get_self hG3]; rfl
 · rw [DS.upd_wr]; exact (hG3 _ (Nat.le_refl _)).2
theorem NY {p n : Nat} {H : List Value} {y : Value} {r : List Int} {f : Nat} (hG : s.Good) (gp : s.get p = some (.cells (.list H) false)) (wp : s.wr p = true) (hH : HOk H n) (hy : SlR s y r) (hpy : p ∉ blk y) (hf : r.length ≤ f) (hlf : r.length < E.lf) :
 W (dcall E (d + 4) (.func (.func 52) #[] #[]) [.pointer (some ⟨p, 0, none⟩), y] s) fun r' => Ext [p] s r'.2 ∧ r'.2.get p = some (.cells (.list (Fh f H r)) false) ∧ ∃ n', HOk (Fh f H r) n' := by
 have hpl := DS.get_lt' gp
 refine Zz fun Q hQ => ?_
 rw [zF hB.iadd hB.fadd rfl]
 simp (maxSteps := 4000000) only [zr, zf, zA, Zq, zO, zc, zg, zn, zt, zv, ze, ZF, zi, zM, Z8, Zl, zl, zk, zd, zb, za, z0, zq, List.getElem?_cons_zero, z1, if_false, reduceCtorEq, Bool.not_false, z3, pp, pv, d52]
 refine Xi (AI s p (Fh f H r)) r.length hlf ⟨f, H, n, r, y, rfl, hf, rfl, hH, rfl, ?_, hy, hpy, .refl, gp⟩ ?_
 · simp (maxSteps := 4000000) only [za, Nat.reduceEqDiff, z0, zq, List.getElem?_cons_zero, List.getElem?_cons_succ, Bool.and_self, and_self, reduceCtorEq]
 rintro m ⟨tt, s2, ds⟩ hm ⟨f2, H2, n2, r2, y2, rfl, hf2, hFin, hH2, hds, ⟨g0, g1⟩, hy2, hpy2, X2, gp2⟩
 simp only at hds g0 g1 hy2 X2 gp2
 subst hds
 obtain ⟨ya, yc, rfl⟩ := hy2.len
 have hG2 := X2.good hG
 have wp2 := X2.wrs wp
 by_cases c1 : 0 < r2.length
 · have e1 : (0 : Int) < (r2.length : Int) := by omega
   have hn72 := hH2.hn
   simp (maxSteps := 4000000) only [zr, zf, zA, Zq, zO, zc, zg, zn, zt, zS, ze, zu, zi, zM, zT, Za, zH, Yf, Zh, zm, zY, zP, zl, zk, zd, zb, za, z0, z1, zC, Cells.get, Nat.zero_add, if_true, reduceCtorEq, decide_true, g0, g1, e1, gp2, hn72]
   have hcnt := hH2.cnt
   have hlen := hH2.len
   have ha73 := hH2.ha
   refine V3 (K := fun e y => e = .normal ∧ y.defers = [] ∧ (y.t.get 0 = some (.pointer (some ⟨p, 0, none⟩)) ∧ y.t.get 1 = some (.slice ya r2.length yc)) ∧ Ext [p] s2 y.s ∧ y.s.get p = some (.cells (.list (YA H2)) false)) ?_ ?_
   · by_cases c2 : n2 = 64
     · have e2 : ((n2 : Int) = 64) := by omega
       have hfl : YA H2 = Km H2 := by unfold YA; rw [if_pos (by rw [hcnt]; exact c2)]
       have hs73 : getN (Zd H2 73 (.int .u64 (zR .u64 (nAt H2 73 + 64)))) 73 = some (.int .u64 (zR .u64 (nAt H2 73 + 64))) := W9 (by rw [ha73]; rfl)
       simp (maxSteps := 4000000) only [zr, zf, zc, zg, zn, zt, zS, ze, zu, Zi, zi, zM, zT, Za, zH, Zh, Yl, zB, zm, zY, zP, zl, zk, zy, zd, zJ, zb, za, Nat.reduceEqDiff, z0, z1, z4, z5, zC, Cells.get, Nat.zero_add, Nat.reduceAdd, ZA, Zg, List.length_cons, List.length_nil, allOne, zQ, Bool.and_self, Bool.and_true, Nat.beq_eq, Nat.ble_eq, Nat.le_refl, if_true, reduceCtorEq, DS.wrC, Cells.size, Cells.fillFrom, Cells.set, DS.upd_get_self, Option.map_some, Nat.add_zero, decide_true, g0, g1, gp2, wp2, e2, ha73, hlen, hs73]
       refine W.mono (Ci hB (lp := Zd H2 73 (.int .u64 (zR .u64 (nAt H2 73 + 64)))) (lq := Zd H2 73 (.int .u64 (zR .u64 (nAt H2 73 + 64)))) ?_ ?_ ?_ ?_ (hH2.hw.other (.inr (by omega))) (hH2.hb.other (.inr (by omega)))) ?_
       · rw [DS.upd_good]; exact hG2
       · simp (maxSteps := 4000000) only [DS.upd_get_self, Option.map_some, gp2]
       · simp (maxSteps := 4000000) only [DS.upd_wr, wp2]
       · simp (maxSteps := 4000000) only [DS.upd_get_self, Option.map_some, gp2]
       rintro ⟨v3, s3⟩ ⟨h3, X3, g3⟩
       simp only at h3 X3 g3
       subst h3
       have wp3 : s3.wr p = true := X3.wrs (by simp (maxSteps := 4000000) only [DS.upd_wr, wp2])
       simp (maxSteps := 4000000) only [zf, zc, zg, zn, zt, ze, zu, Zi, zi, zM, Za, zH, Yl, zm, zl, zk, zd, zJ, zb, za, Nat.reduceEqDiff, z0, z1, Nat.zero_add, Nat.reduceAdd, ZA, Zg, List.length_cons, List.length_nil, allOne, zQ, Bool.and_self, Bool.and_true, Bool.true_and, Nat.beq_eq, Nat.ble_eq, Nat.reduceLeDiff, and_self, true_and, if_true, reduceCtorEq, DS.wrC, Cells.size, Cells.fillFrom, Cells.set, DS.upd_get_self, Option.map_some, g0, g1, g3, wp3, Vh, ZS, hlen]
       refine ⟨(Ext.upd (.inl (by simp))).trans' (X3.trans' (Ext.upd (.inl (by simp)))), ?_⟩
       rw [hfl]; rfl
     · have e2 : ¬ ((n2 : Int) = 64) := by omega
       have hfl : YA H2 = H2 := by unfold YA; rw [if_neg (by rw [hcnt]; exact c2)]
       simp (maxSteps := 4000000) only [zO, zv, za, Nat.reduceEqDiff, z0, Bool.and_self, Bool.and_true, Bool.true_and, and_self, and_true, true_and, reduceCtorEq, decide_false, g0, g1, gp2, e2, hfl]
       exact .refl
   · rintro e ⟨t3, s3, ds⟩ ⟨rfl, h3, ⟨g0, g1⟩, X3, g3⟩
     simp only at h3 g0 g1 X3 g3
     subst h3
     obtain ⟨n3, hn3, hH3, hc3⟩ := hH2.full
     have hn72' := hH3.hn
     have hl3 := hH3.len
     have wp3 := X3.wrs wp2
     have hy3 := hy2.keep X3 (fun k hk => by simp; rintro rfl; exact hpy2 hk)
     have hbd : ZQ 64 64 (some (.int .i64 (n3 : Int))) none none = some (n3, 64, 64) := by
      unfold ZQ
      simp only [zW, Nat.ble_eq.mpr (show n3 ≤ 64 by omega), if_true]
     simp (maxSteps := 4000000) only [zr, zf, zc, zt, ze, zu, zi, zM, Za, zH, Zh, zm, zl, zd, zb, za, Nat.reduceEqDiff, z0, z1, zC, Cells.get, Nat.zero_add, if_true, reduceCtorEq, Option.map_some, Option.map_none, Nat.mul_one, Q2, g0, g1, g3, hn72', hbd, Ye, Fk]
     refine W.mono (K6 g3 wp3 (by rw [hl3]; omega) hy3.view (TI r2).one) ?_
     rintro ⟨v4, s4⟩ ⟨h4, X4, g4⟩
     simp only at h4 X4 g4
     subst h4
     rw [← hc3] at g4
     have hl4 := G0 hH3 r2
     have hg4 := G1 hH3 r2 (i := 72) (.inr (by omega))
     rw [hn72'] at hg4
     have hc : min (64 - n3) (u8s r2).length = min (64 - n3) r2.length := by rw [(TI r2).1]
     obtain ⟨c, hcc⟩ : ∃ c, c = min (64 - n3) r2.length := ⟨_, rfl⟩
     have hcle : c ≤ r2.length := by omega
     have hput : HOk (Gh (YA H2) r2) (n3 + c) := by rw [hcc]; exact hH3.put r2
     have hpf : Gh (YA H2) r2 = Zd ((YA H2).take (8 + nOf (YA H2)) ++ ((u8s r2).take (min (64 - nOf (YA H2)) (u8s r2).length) ++ (YA H2).drop (8 + nOf (YA H2) + min (64 - nOf (YA H2)) (u8s r2).length))) 72 (.int .i64 ((n3 + c : Nat) : Int)) := by
      unfold Gh
      rw [hcc, hc3]
     obtain ⟨L4, hL4⟩ : ∃ L4, L4 = (YA H2).take (8 + nOf (YA H2)) ++ ((u8s r2).take (min (64 - nOf (YA H2)) (u8s r2).length) ++ (YA H2).drop (8 + nOf (YA H2) + min (64 - nOf (YA H2)) (u8s r2).length)) := ⟨_, rfl⟩
     rw [← hL4] at g4 hl4 hg4 hpf
     rw [hc, ← hcc]
     have w1 : zR .i64 ((n3 : Int) + (c : Int)) = ((n3 + c : Nat) : Int) := by rw [ZB (by omega) (by omega)]; omega
     have hy4 := hy3.keep X4 (fun k hk => by simp; rintro rfl; exact hpy2 hk)
     obtain ⟨w, hw, hyw, hbw⟩ := hy4.drop hcle
     have wp4 := X4.wrs wp3
     simp (maxSteps := 4000000) only [zr, zf, zc, Zo, zg, ZU, zn, zt, ze, zu, Zi, zi, zM, zT, Za, zH, Zh, Yl, zm, zY, zP, zl, zd, zJ, zb, za, Nat.reduceEqDiff, z0, z1, zC, Cells.get, Nat.zero_add, Nat.reduceAdd, ZA, Zg, List.length_cons, List.length_nil, allOne, zQ, Bool.and_self, Bool.and_true, Nat.beq_eq, Nat.ble_eq, Nat.reduceLeDiff, if_true, reduceCtorEq, DS.wrC, Cells.size, Cells.fillFrom, Cells.set, Option.map_some, CO, Option.map_none, g0, g1, g4, hg4, hl4, w1, wp4, hw]
     have XU : Ext [p] s4 (s4.upd p (.cells (.list (Zd L4 72 (.int .i64 ((n3 + c : Nat) : Int)))) false)) := Ext.upd (.inl (by simp))
     refine ⟨(r2.drop c).length, by rw [List.length_drop]; omega, ⟨f2 - 1, Gh (YA H2) r2, n3 + c, r2.drop c, w, rfl, by rw [List.length_drop]; omega, ?_, hput, rfl, by simp (maxSteps := 4000000) only [zb, za, z0, Bool.and_self, and_self, reduceCtorEq, g0, g1], hyw.keep XU (fun k hk => by simp; rintro rfl; exact hpy2 (hbw _ hk)), fun hk => hpy2 (hbw _ hk), X2.trans' (X3.trans' (X4.trans' XU)), ?_⟩⟩
     · rw [← hFin]
       obtain ⟨x, r3, rfl⟩ : ∃ x r3, r2 = x :: r3 := by
        cases r2 with
        | nil => simp at c1
        | cons x r3 => exact ⟨x, r3, rfl⟩
       obtain ⟨f3, rfl⟩ : ∃ f3, f2 = f3 + 1 := ⟨f2 - 1, by simp at hf2; omega⟩
       show _ = Fh f3 (Gh (YA H2) (x :: r3)) ((x :: r3).drop (min (64 - nOf (YA H2)) (x :: r3).length))
       rw [hc3, ← hcc]; rfl
     · simp (maxSteps := 4000000) only [DS.upd_get_self, Option.map_some, g4]
       rw [hpf]
 · have hr : r2 = [] := List.eq_nil_of_length_eq_zero (by omega)
   subst hr
   have e1 : ¬ (0 : Int) < (([] : List Int).length : Int) := by simp
   have hend : Fh f2 H2 [] = H2 := by cases f2 <;> rfl
   rw [hend] at hFin
   have e0 : ¬ (0 : Int) < ((0 : Nat) : Int) := by decide
   simp (maxSteps := 4000000) only [zr, zf, zA, zI, Xj, zc, Z9, Yb, zg, Ya, zn, zt, zv, ze, zu, zi, zM, zT, Yf, zm, zY, zP, zx, zl, zk, zd, zb, za, z0, z1, zo, zz, List.length_nil, if_true, reduceCtorEq, decide_false, g0, g1, e1, e0]
   refine hQ _ ⟨X2, ?_, n2, ?_⟩
   · rw [← hFin]; exact gp2
   · rw [← hFin]; exact hH2
theorem NT {p n : Nat} {H : List Value} (hG : s.Good) (gp : s.get p = some (.cells (.list H) false)) (hH : HOk H n) :
 W (dcall E (d + 4) (.func (.func 53) #[] #[]) [.pointer (some ⟨p, 0, none⟩)] s) fun r => r.1 = .agg ⟨To H⟩ ∧ Ext [] s r.2 := by
 have hpl := DS.get_lt' gp
 have hlf := hB.lf
 refine Zz fun Q hQ => ?_
 rw [zF hB.idig hB.fdig rfl]
 have hld : ∀ z, ldA 8 (.pointer (some ⟨p, 0, none⟩)) (s.new z) = some (.agg ⟨cut 0 8 H⟩) := fun z => by
  unfold ldA DS.read
  simp only [DS.new_get_lt hpl, gp]
  rw [ZL _ _ _ (by rw [hH.len]; decide)]; rfl
 have hfill : (Cells.list [.int .u32 0, .int .u32 0, .int .u32 0, .int .u32 0, .int .u32 0, .int .u32 0, .int .u32 0, .int .u32 0]).fillFrom 0 (cut 0 8 H) = .list (cut 0 8 H) := by
  rw [Yg _ _ _ (by rw [hH.hw.cut.1]; decide), hH.hw.cut.1]
  simp
 simp (maxSteps := 4000000) (maxDischargeDepth := 8) only [zr, zf, zA, zO, zc, zg, zn, zt, zv, ze, zu, Zi, Z3, ZF, zi, zM, Z8, Za, ZG, zH, Yl, Zp, zm, Zl, zl, zk, zd, zJ, zb, za, z0, zq, List.getElem?_cons_zero, z1, Nat.zero_add, Nat.reduceAdd, ZA, zD, List.length_cons, List.length_nil, allOne, zQ, Bool.and_self, Bool.and_true, Nat.beq_eq, Nat.ble_eq, Nat.le_refl, if_true, if_false, Bool.not_false, z3, DS.wrC, Cells.size, Cells.fillFrom, Cells.set, Zd, zL, pp, pv, DS.upd_get_ne, DS.upd_wr, z7, wrN, Option.map_none, Q3, Nat.add_zero, Q2, zw, zE, zK, DS.upd_good, Yq, zZ, Xw, Nat.add_assoc, Nat.reduceLT, Nat.lt_add_one, Nat.succ_pos, d53, gp, hG, hpl, hld, hH.hw.cut.1, hH.hw.cut.allOne, hfill]
 obtain ⟨S5, hS5⟩ : ∃ S5 : DS, S5 = ((((s.new (.cells (.list [.int .u8 0, .int .u8 0, .int .u8 0, .int .u8 0, .int .u8 0, .int .u8 0, .int .u8 0, .int .u8 0, .int .u8 0, .int .u8 0, .int .u8 0, .int .u8 0, .int .u8 0, .int .u8 0, .int .u8 0, .int .u8 0, .int .u8 0, .int .u8 0, .int .u8 0, .int .u8 0, .int .u8 0, .int .u8 0, .int .u8 0, .int .u8 0, .int .u8 0, .int .u8 0, .int .u8 0, .int .u8 0, .int .u8 0, .int .u8 0, .int .u8 0, .int .u8 0]) false)).new (.cells (.list [.int .u32 0, .int .u32 0, .int .u32 0, .int .u32 0, .int .u32 0, .int .u32 0, .int .u32 0, .int .u32 0]) false)).new (.cells (.list [.int .u8 0, .int .u8 0, .int .u8 0, .int .u8 0, .int .u8 0, .int .u8 0, .int .u8 0, .int .u8 0, .int .u8 0, .int .u8 0, .int .u8 0, .int .u8 0, .int .u8 0, .int .u8 0, .int .u8 0, .int .u8 0, .int .u8 0, .int .u8 0, .int .u8 0, .int .u8 0, .int .u8 0, .int .u8 0, .int .u8 0, .int .u8 0, .int .u8 0, .int .u8 0, .int .u8 0, .int .u8 0, .int .u8 0, .int .u8 0, .int .u8 0, .int .u8 0, .int .u8 0, .int .u8 0, .int .u8 0, .int .u8 0, .int .u8 0, .int .u8 0, .int .u8 0, .int .u8 0, .int .u8 0, .int .u8 0, .int .u8 0, .int .u8 0, .int .u8 0, .int .u8 0, .int .u8 0, .int .u8 0, .int .u8 0, .int .u8 0, .int .u8 0, .int .u8 0, .int .u8 0, .int .u8 0, .int .u8 0, .int .u8 0, .int .u8 0, .int .u8 0, .int .u8 0, .int .u8 0, .int .u8 0, .int .u8 0, .int .u8 0, .int .u8 0]) false)).upd (s.next + 1) (.cells (.list (cut 0 8 H)) false)).upd (s.next + 2) (.cells (.list [.int .u8 0, .int .u8 0, .int .u8 0, .int .u8 0, .int .u8 0, .int .u8 0, .int .u8 0, .int .u8 0, .int .u8 0, .int .u8 0, .int .u8 0, .int .u8 0, .int .u8 0, .int .u8 0, .int .u8 0, .int .u8 0, .int .u8 0, .int .u8 0, .int .u8 0, .int .u8 0, .int .u8 0, .int .u8 0, .int .u8 0, .int .u8 0, .int .u8 0, .int .u8 0, .int .u8 0, .int .u8 0, .int .u8 0, .int .u8 0, .int .u8 0, .int .u8 0, .int .u8 0, .int .u8 0, .int .u8 0, .int .u8 0, .int .u8 0, .int .u8 0, .int .u8 0, .int .u8 0, .int .u8 0, .int .u8 0, .int .u8 0, .int .u8 0, .int .u8 0, .int .u8 0, .int .u8 0, .int .u8 0, .int .u8 0, .int .u8 0, .int .u8 0, .int .u8 0, .int .u8 0, .int .u8 0, .int .u8 0, .int .u8 0, .int .u8 0, .int .u8 0, .int .u8 0, .int .u8 0, .int .u8 0, .int .u8 0, .int .u8 0, .int .u8 0]) false) := ⟨_, rfl⟩
 rw [← hS5]
 rw [show ([.int .u8 0, .int .u8 0, .int .u8 0, .int .u8 0, .int .u8 0, .int .u8 0, .int .u8 0, .int .u8 0, .int .u8 0, .int .u8 0, .int .u8 0, .int .u8 0, .int .u8 0, .int .u8 0, .int .u8 0, .int .u8 0, .int .u8 0, .int .u8 0, .int .u8 0, .int .u8 0, .int .u8 0, .int .u8 0, .int .u8 0, .int .u8 0, .int .u8 0, .int .u8 0, .int .u8 0, .int .u8 0, .int .u8 0, .int .u8 0, .int .u8 0, .int .u8 0, .int .u8 0, .int .u8 0, .int .u8 0, .int .u8 0, .int .u8 0, .int .u8 0, .int .u8 0, .int .u8 0, .int .u8 0, .int .u8 0, .int .u8 0, .int .u8 0, .int .u8 0, .int .u8 0, .int .u8 0, .int .u8 0, .int .u8 0, .int .u8 0, .int .u8 0, .int .u8 0, .int .u8 0, .int .u8 0, .int .u8 0, .int .u8 0, .int .u8 0, .int .u8 0, .int .u8 0, .int .u8 0, .int .u8 0, .int .u8 0, .int .u8 0, .int .u8 0] : List Value) = z6 .u8 64 from rfl, show ([.int .u8 0, .int .u8 0, .int .u8 0, .int .u8 0, .int .u8 0, .int .u8 0, .int .u8 0, .int .u8 0, .int .u8 0, .int .u8 0, .int .u8 0, .int .u8 0, .int .u8 0, .int .u8 0, .int .u8 0, .int .u8 0, .int .u8 0, .int .u8 0, .int .u8 0, .int .u8 0, .int .u8 0, .int .u8 0, .int .u8 0, .int .u8 0, .int .u8 0, .int .u8 0, .int .u8 0, .int .u8 0, .int .u8 0, .int .u8 0, .int .u8 0, .int .u8 0] : List Value) = z6 .u8 32 from rfl, show ([.int .u32 0, .int .u32 0, .int .u32 0, .int .u32 0, .int .u32 0, .int .u32 0, .int .u32 0, .int .u32 0] : List Value) = z6 .u32 8 from rfl] at hS5
 have hn := hH.hn
 have hle := hH.le
 have X5 : Ext [] s S5 := by
  rw [hS5]
  exact (((((Ext.new (F := [])).trans' Ext.new).trans' Ext.new).trans (Ext.upd (F := [s.next + 1]) (.inl (by simp))) (by simp)).trans (Ext.upd (F := [s.next + 2]) (.inl (by simp))) (by simp))
 have hG5 := X5.good hG
 have nS : S5.next = s.next + 3 := by rw [hS5]; simp (maxSteps := 4000000) (maxDischargeDepth := 8) only [Nat.reduceAdd, DS.upd_next, z7, Nat.add_assoc]
 have gD5 : S5.get s.next = some (.cells (.list (z6 .u8 32)) false) := by rw [hS5]; simp (maxSteps := 4000000) (maxDischargeDepth := 8) only [z0, Nat.reduceAdd, DS.upd_get_ne, z7, zw, zE, zK, zZ, Z0, Nat.add_assoc, Nat.lt_add_one, Nat.succ_pos, hG]
 have gX5 : S5.get (s.next + 1) = some (.cells (.list (cut 0 8 H)) false) := by rw [hS5]; simp (maxSteps := 4000000) (maxDischargeDepth := 8) only [z0, Nat.reduceAdd, DS.upd_get_self, DS.upd_get_ne, Option.map_some, z7, zw, zE, zK, zZ, Nat.add_assoc, Nat.lt_add_one, hG]
 have gB5 : S5.get (s.next + 2) = some (.cells (.list (z6 .u8 64)) false) := by rw [hS5]; simp (maxSteps := 4000000) (maxDischargeDepth := 8) only [z0, Nat.reduceAdd, DS.upd_get_self, DS.upd_get_ne, Option.map_some, z7, zw, zK, Xw, Nat.add_assoc, Nat.lt_add_one, hG]
 have gp5 := X5.keep gp (by simp)
 have wD5 : S5.wr s.next = true := X5.wrs (hG _ (Nat.le_refl _)).2
 have wX5 : S5.wr (s.next + 1) = true := X5.wrs (hG _ (by omega)).2
 have wB5 : S5.wr (s.next + 2) = true := X5.wrs (hG _ (by omega)).2
 obtain ⟨D, hD⟩ : ∃ D, D = s.next := ⟨_, rfl⟩
 simp only [← hD] at nS gD5 gX5 gB5 wD5 wX5 wB5 hpl ⊢
 clear hS5
 have hbd : ZQ 64 64 none (some (.int .i64 (n : Int))) none = some (0, n, 64) := by
  unfold ZQ
  simp only [zW, Nat.ble_eq.mpr hle, if_true]
 simp (maxSteps := 4000000) only [zt, ze, zu, zi, zM, Za, zH, Zh, zm, zl, zd, zb, za, Nat.reduceEqDiff, z0, zq, List.getElem?_cons_zero, z1, zC, Cells.get, Nat.zero_add, if_true, reduceCtorEq, Option.map_some, Option.map_none, Nat.add_zero, Nat.mul_one, Q2, JE, hbd, Ye, Fk, gp5, hn]
 refine W.mono (K6 gB5 wB5 (by rw [(YP .u8 64).1]; decide) (DF gp5 (by rw [hH.len]; omega)) (hH.hb.sub hle).cut.one) ?_
 rintro ⟨v6, s6⟩ ⟨h6, X6, g6⟩
 simp only at h6 X6 g6
 subst h6
 have gp6 := X6.keep gp5 (by simp; omega)
 have gX6 := X6.keep gX5 (by simp)
 have wX6 := X6.wrs wX5
 have ha73 := hH.ha
 simp (maxSteps := 4000000) only [zr, zf, zc, zg, zn, zt, ze, zu, zi, zM, zT, Jl, Za, zH, Zh, zB, zm, zY, zP, zl, zk, zy, zd, zb, za, Nat.reduceEqDiff, z0, zq, List.getElem?_cons_zero, z1, z4, z5, zC, Cells.get, Nat.zero_add, if_true, reduceCtorEq, gp6, hn, ha73]
 have g6' : s6.get (D + 2) = some (.cells (.list (Rz H n)) false) := g6
 have hBU := MN hH.hb hle
 have hXU := hH.hw.cut
 have hG6 := X6.good hG5
 have gD6 := X6.keep gD5 (by simp)
 refine W.mono (Ci hB hG6 gX6 wX6 g6' (hXU.part (Nat.le_refl _)) (hBU.part (Nat.le_refl _))) ?_
 rintro ⟨v7, s7⟩ ⟨h7, X7, g7⟩
 simp only at h7 X7 g7
 subst h7
 have hG7 := X7.good hG6
 have hcnt := hH.cnt
 obtain ⟨w, hw⟩ : ∃ w, w = JH (cut 0 8 H) (Rz H n) 0 (zR .u64 (nAt H 73 + zR .u64 (n : Int))) true := ⟨_, rfl⟩
 have hdig : To H = Gi w 8 := by unfold To; rw [hcnt, hw]
 have hwU : UA .u32 0 8 w := by rw [hw]; exact Cj (hXU.part (Nat.le_refl _))
 have hwl : w.length = 8 := by rw [hw, Vh]; exact hXU.1
 have hwW : U .u32 8 w := hwU.all hwl
 rw [← hw] at g7
 have hld7 : ∀ z, ldA 8 (.pointer (some ⟨D + 1, 0, none⟩)) (s7.new z) = some (.agg ⟨w⟩) := fun z => by
  have := DS.get_lt' g7
  unfold ldA DS.read
  simp only [DS.new_get_lt this, g7]
  rw [ZL _ _ _ (by rw [hwl]; decide)]
  simp only [List.drop_zero]
  rw [List.take_of_length_le (by rw [hwl]; exact Nat.le_refl _)]
 simp (maxSteps := 4000000) (maxDischargeDepth := 8) only [zr, zf, Zq, zc, zg, zn, zt, ze, zu, zi, zM, Zp, zl, zk, zd, zb, za, z0, z1, Q3, zZ, Nat.reduceLT, Nat.lt_add_one, hld7, hG7]
 obtain ⟨S8, hS8⟩ : ∃ S8 : DS, S8 = s7.new (.cells (.list [.int .u8 0, .int .u8 0, .int .u8 0, .int .u8 0, .int .u8 0, .int .u8 0, .int .u8 0, .int .u8 0, .int .u8 0, .int .u8 0, .int .u8 0, .int .u8 0, .int .u8 0, .int .u8 0, .int .u8 0, .int .u8 0, .int .u8 0, .int .u8 0, .int .u8 0, .int .u8 0, .int .u8 0, .int .u8 0, .int .u8 0, .int .u8 0, .int .u8 0, .int .u8 0, .int .u8 0, .int .u8 0, .int .u8 0, .int .u8 0, .int .u8 0, .int .u8 0]) false) := ⟨_, rfl⟩
 rw [← hS8]
 rw [show ([.int .u8 0, .int .u8 0, .int .u8 0, .int .u8 0, .int .u8 0, .int .u8 0, .int .u8 0, .int .u8 0, .int .u8 0, .int .u8 0, .int .u8 0, .int .u8 0, .int .u8 0, .int .u8 0, .int .u8 0, .int .u8 0, .int .u8 0, .int .u8 0, .int .u8 0, .int .u8 0, .int .u8 0, .int .u8 0, .int .u8 0, .int .u8 0, .int .u8 0, .int .u8 0, .int .u8 0, .int .u8 0, .int .u8 0, .int .u8 0, .int .u8 0, .int .u8 0] : List Value) = z6 .u8 32 from rfl] at hS8
 have X8 : Ext [] s7 S8 := by rw [hS8]; exact Ext.new
 have gO8 : S8.get s7.next = some (.cells (.list (z6 .u8 32)) false) := by rw [hS8]; simp (maxSteps := 4000000) (maxDischargeDepth := 8) only [zw, hG7]
 have wO8 : S8.wr s7.next = true := X8.wrs (hG7 _ (Nat.le_refl _)).2
 have n7 : D + 3 ≤ s7.next := by have := X7.le; have := X6.le; omega
 have gD8 := X8.keep (X7.keep gD6 (by simp)) (by simp)
 have wD8 := X8.wrs (X7.wrs (X6.wrs wD5))
 clear hS8
 refine Xi (OI S8 s7.next D w) 8 (by omega) ⟨0, rfl, by omega, rfl, ?_, .refl, gO8⟩ ?_
 · simp (maxSteps := 4000000) only [zb, za, Nat.reduceEqDiff, z0, Bool.true_and, true_and]
   rfl
 rintro m ⟨tt, s9, ds⟩ hm ⟨j, rfl, hj, hds, ⟨g2, g5, g38, g39⟩, X9, g9⟩
 simp only at hds g2 g5 g38 g39 X9 g9
 subst hds
 have w9 := X9.wrs wO8
 by_cases c1 : j < 8
 · have e1 : (j : Int) < 8 := by omega
   have w1 : zR .i64 ((j : Int) + 1) = ((j + 1 : Nat) : Int) := by rw [ZB (by omega) (by omega)]; omega
   have w4 : zR .i64 (4 * (j : Int)) = ((4 * j : Nat) : Int) := by rw [ZB (by omega) (by omega)]; omega
   have wa : zR .i64 (((4 * j : Nat) : Int) + 1) = ((4 * j + 1 : Nat) : Int) := by rw [ZB (by omega) (by omega)]; omega
   have wb : zR .i64 (((4 * j : Nat) : Int) + 2) = ((4 * j + 2 : Nat) : Int) := by rw [ZB (by omega) (by omega)]; omega
   have wc : zR .i64 (((4 * j : Nat) : Int) + 3) = ((4 * j + 3 : Nat) : Int) := by rw [ZB (by omega) (by omega)]; omega
   have hwj := hwW.at c1
   have l0 : 4 * j < 32 := by omega
   have l1 : 4 * j + 1 < 32 := by omega
   have l2 : 4 * j + 2 < 32 := by omega
   have l3 : 4 * j + 3 < 32 := by omega
   have k0 : 4 * j ≤ 31 := by omega
   have k1 : 4 * j ≤ 30 := by omega
   have k2 : 4 * j ≤ 29 := by omega
   have k3 : 4 * j ≤ 28 := by omega
   have hpo : partOf none w j = some (.int .u32 (nAt w j)) := by unfold partOf; exact hwj
   simp (maxSteps := 4000000) only [zr, zf, zA, Zq, zO, zc, Zo, zg, ZU, zn, zt, zS, ze, zu, Zi, zi, zM, zT, Jl, Yl, zm, zY, zP, zl, zk, zd, zJ, zb, za, Nat.reduceEqDiff, z0, z1, Nat.zero_add, ZA, Zg, List.length_cons, List.length_nil, allOne, zQ, Bool.and_self, Bool.and_true, Nat.beq_eq, Nat.ble_eq, Nat.blt_eq, Nat.reduceLeDiff, if_true, DS.wrC, Cells.size, Cells.fillFrom, Cells.set, DS.upd_get_self, DS.upd_wr, Option.map_some, zW, Nat.mul_one, decide_true, Wj, N2, g2, g5, g38, g39, e1, w1, w4, wa, wb, wc, hwj, hwl, c1, Mk, Nx, Nw, l0, l1, l2, l3, g9, w9, ZS, (Cr w j).1, hpo, k0, k1, k2, k3]
   refine ⟨8 - (j + 1), by omega, ⟨j + 1, rfl, by omega, rfl, by simp (maxSteps := 4000000) only [zb, za, Nat.reduceEqDiff, z0, Bool.and_self, and_self, g2, g5, g38, g39], X9.trans' ((((Ext.upd (.inl (by simp))).trans' (Ext.upd (.inl (by simp)))).trans' (Ext.upd (.inl (by simp)))).trans' (Ext.upd (.inl (by simp)))), ?_⟩⟩
   simp (maxSteps := 4000000) only [DS.upd_get_self, Option.map_some, g9]
   rfl
 · obtain rfl : j = 8 := by omega
   have e1 : ¬ ((8 : Nat) : Int) < 8 := by omega
   have hO := Cr w 8
   have gD9 := X9.keep gD8 (by simp; omega)
   have wD9 := X9.wrs wD8
   have hld9 : ldA 32 (.pointer (some ⟨s7.next, 0, none⟩)) s9 = some (.agg ⟨Gi w 8⟩) := by
    unfold ldA DS.read
    simp only [g9]
    rw [ZL _ _ _ (by rw [hO.1]; decide)]
    simp only [List.drop_zero]
    rw [List.take_of_length_le (by rw [hO.1]; exact Nat.le_refl _)]
   have hfill9 : (Cells.list (z6 .u8 32)).fillFrom 0 (Gi w 8) = .list (Gi w 8) := by
    rw [Yg _ _ _ (by rw [hO.1]; decide), hO.1]
    simp [z6]
   have hrd : (s9.upd D (.cells (.list (Gi w 8)) false)).read D 0 32 = some (Gi w 8) := by
    unfold DS.read
    simp only [DS.upd_get_self, gD9, Option.map_some]
    rw [ZL _ _ _ (by rw [hO.1]; decide)]
    simp only [List.drop_zero]
    rw [List.take_of_length_le (by rw [hO.1]; exact Nat.le_refl _)]
   simp (maxSteps := 4000000) (maxDischargeDepth := 8) only [zr, zf, zA, zI, Xj, zc, Z9, Yb, zg, Ya, zn, zt, zv, ze, zu, Zi, zi, zT, Yl, zY, zP, z9, zx, zl, zk, zd, zJ, zb, za, z0, z1, zo, zz, Nat.zero_add, ZA, zD, Bool.and_true, Nat.beq_eq, Nat.ble_eq, Nat.le_refl, if_true, DS.wrC, Cells.size, Q3, decide_false, zZ, Nat.reduceLT, g2, g5, g38, g39, e1, hld9, gD9, wD9, hO.1, hO.allOne, hfill9, (YP .u8 32).1, hrd]
   refine hQ _ ⟨by rw [hdig], ?_⟩
   have a1 : Ext [] s s6 := X5.trans X6 (by simp; omega)
   have a2 : Ext [] s s7 := a1.trans X7 (by simp; omega)
   have a3 : Ext [] s s9 := (a2.trans' X8).trans X9 (by simp; omega)
   exact a3.trans (Ext.upd (F := [D]) (.inl (by simp))) (by simp; omega)
theorem TT {b : Nat} {ps : List (Value × List Int)} (hG : s.Good) (gb : s.get b = some (.cells (.list (ps.map Prod.fst)) false)) (hps : ∀ q, q ∈ ps → SlR s q.1 q.2) (hl : ps.length < E.lf) (h63 : ps.length ≤ 1000000) (hlr : ∀ q, q ∈ ps → q.2.length < E.lf) :
 W (dcall E (d + 5) (.func (.func 30) #[] #[]) [.slice (some ⟨b, 0, none⟩) ps.length ps.length] s) fun r => r.1 = .agg ⟨QE (ps.map Prod.snd)⟩ ∧ Ext [] s r.2 := by
 refine Zz fun Q hQ => ?_
 rw [zF hB.isum hB.fsum rfl]
 have hbl := DS.get_lt' gb
 simp (maxSteps := 4000000) (maxDischargeDepth := 8) only [zr, zf, zc, zg, zn, zt, ze, Zp, zB, zy, zd, z5, pp, pv, d30, hG]
 obtain ⟨S1, hS1⟩ : ∃ S1 : DS, S1 = s.new (.cells (.list [.int .u8 0, .int .u8 0, .int .u8 0, .int .u8 0, .int .u8 0, .int .u8 0, .int .u8 0, .int .u8 0, .int .u8 0, .int .u8 0, .int .u8 0, .int .u8 0, .int .u8 0, .int .u8 0, .int .u8 0, .int .u8 0, .int .u8 0, .int .u8 0, .int .u8 0, .int .u8 0, .int .u8 0, .int .u8 0, .int .u8 0, .int .u8 0, .int .u8 0, .int .u8 0, .int .u8 0, .int .u8 0, .int .u8 0, .int .u8 0, .int .u8 0, .int .u8 0]) false) := ⟨_, rfl⟩
 rw [← hS1]
 rw [show ([.int .u8 0, .int .u8 0, .int .u8 0, .int .u8 0, .int .u8 0, .int .u8 0, .int .u8 0, .int .u8 0, .int .u8 0, .int .u8 0, .int .u8 0, .int .u8 0, .int .u8 0, .int .u8 0, .int .u8 0, .int .u8 0, .int .u8 0, .int .u8 0, .int .u8 0, .int .u8 0, .int .u8 0, .int .u8 0, .int .u8 0, .int .u8 0, .int .u8 0, .int .u8 0, .int .u8 0, .int .u8 0, .int .u8 0, .int .u8 0, .int .u8 0, .int .u8 0] : List Value) = z6 .u8 32 from rfl] at hS1
 have X1 : Ext [] s S1 := by rw [hS1]; exact Ext.new
 have hG1 := X1.good hG
 have gD1 : S1.get s.next = some (.cells (.list (z6 .u8 32)) false) := by rw [hS1]; simp (maxSteps := 4000000) (maxDischargeDepth := 8) only [zw, hG]
 have wD1 : S1.wr s.next = true := X1.wrs (hG _ (Nat.le_refl _)).2
 have n1 : S1.next = s.next + 1 := by rw [hS1]; rfl
 obtain ⟨D, hD⟩ : ∃ D, D = s.next := ⟨_, rfl⟩
 simp only [← hD] at gD1 wD1 n1 hbl ⊢
 clear hS1
 refine W.mono (NH hB hG1) ?_
 rintro ⟨v2, s2⟩ ⟨p, hv2, hp, X2, g2, w2⟩
 simp only at hv2 X2 g2 w2
 subst hv2
 have XA : Ext [] s s2 := X1.trans' X2
 have hG2 := X2.good hG1
 have gb2 := XA.keep gb (by simp)
 have gD2 := X2.keep gD1 (by simp)
 have wD2 := X2.wrs wD1
 simp (maxSteps := 4000000) only [zr, zf, Zq, zc, zg, zn, zt, ze, zu, zi, zM, Yf, zm, zl, zk, zd, zb, za, z0, zq, List.getElem?_cons_zero, z1, reduceCtorEq]
 refine Xi (SI s2 p D b ps) ps.length hl ⟨0, rfl, Nat.zero_le _, rfl, ?_, .refl, g2, 0, MA⟩ ?_
 · simp (maxSteps := 4000000) only [zb, za, Nat.reduceEqDiff, z0, zq, List.getElem?_cons_zero, Bool.true_and, true_and, reduceCtorEq]
   rfl
 rintro m ⟨tt, s3, ds⟩ hm ⟨j, rfl, hj, hds, ⟨g0, g2', g3, g7, g8, g9⟩, X3, gp3, n3, hH3⟩
 simp only at hds g0 g2' g3 g7 g8 g9 X3 gp3
 subst hds
 have hG3 := X3.good hG2
 by_cases c1 : j < ps.length
 · have e1 : (j : Int) < (ps.length : Int) := by omega
   have w1 : zR .i64 ((j : Int) + 1) = ((j + 1 : Nat) : Int) := by
    have := hG2
    exact ZB (by omega) (by omega)
   have gb3 := X3.keep gb2 (by simp; omega)
   have hgj : getN (ps.map Prod.fst) j = some (ps[j]).1 := by rw [ZJ, List.getElem?_map, List.getElem?_eq_getElem c1]; rfl
   simp (maxSteps := 4000000) only [zr, zf, zA, Zq, zO, zc, zg, zn, zt, zS, ze, zu, zi, zM, zT, GO, Zh, zB, zm, zY, zP, zl, zy, zd, zb, za, Nat.reduceEqDiff, z0, z1, z4, z5, zC, Cells.get, Nat.zero_add, Nat.blt_eq, if_true, zW, Nat.mul_one, decide_true, g0, g2', g3, g7, g8, g9, e1, w1, gb3, hgj, c1]
   have hmem : ps[j] ∈ ps := List.getElem_mem c1
   have hr := hps _ hmem
   have hr3 := (hr.keep XA (by simp)).keep X3 (fun k hk => by have := hr.lt k hk; have := XA.le; have := X1.le; simp; omega)
   have hpb : p ∉ blk ps[j].1 := fun hk => by have := hr.lt p hk; have := X1.le; omega
   refine W.mono (NY hB hG3 gp3 (X3.wrs w2) hH3 hr3 hpb (Nat.le_refl _) (hlr _ hmem)) ?_
   rintro ⟨v4, s4⟩ ⟨X4, g4, hH4⟩
   simp only at X4 g4
   have hsn : (ps.map Prod.snd).take (j + 1) = (ps.map Prod.snd).take j ++ [ps[j].2] := by
    rw [List.take_add_one, List.getElem?_map, List.getElem?_eq_getElem c1]; rfl
   simp (maxSteps := 4000000) only [zf, zc, Zo, zg, ZU, zn, zt, ze, zu, zi, zM, zT, zY, zP, zl, zk, zd, zb, za, Nat.reduceEqDiff, z0, z1, if_true, g0, g2', g3, g7, g8, g9, w1]
   refine ⟨ps.length - (j + 1), by omega, ⟨j + 1, rfl, by omega, rfl, by simp (maxSteps := 4000000) only [zb, za, Nat.reduceEqDiff, z0, Bool.and_self, and_self, reduceCtorEq, g0, g2', g3, g7, g8, g9], X3.trans' X4, ?_, ?_⟩⟩
   · rw [hsn, GN]; exact g4
   · rw [hsn, GN]; exact hH4
 · obtain rfl : j = ps.length := by omega
   have e1 : ¬ ((ps.length : Nat) : Int) < ((ps.length : Nat) : Int) := by omega
   simp (maxSteps := 4000000) only [zr, zf, zA, Xj, zc, Z9, Yb, zg, Ya, zn, zt, zv, ze, zu, zi, zM, zT, zB, zY, zP, zl, zy, zd, zb, za, Nat.reduceEqDiff, z0, z1, z4, z5, if_true, decide_false, g0, g2', g3, g7, g8, g9, e1]
   refine W.mono (NT hB hG3 gp3 hH3) ?_
   rintro ⟨v5, s5⟩ ⟨hv5, X5⟩
   simp only at hv5 X5
   subst hv5
   have htk : (ps.map Prod.snd).take ps.length = ps.map Prod.snd := List.take_of_length_le (by rw [List.length_map]; exact Nat.le_refl _)
   rw [htk]
   have hO := V1 (Du (ps.map Prod.snd))
   have gD5 := X5.keep (X3.keep gD2 (by simp; omega)) (by simp)
   have wD5 := X5.wrs (X3.wrs wD2)
   obtain ⟨o, ho⟩ : ∃ o, o = To (Du (ps.map Prod.snd)) := ⟨_, rfl⟩
   rw [← ho] at hO ⊢
   have hfill9 : (Cells.list (z6 .u8 32)).fillFrom 0 o = .list o := by
    rw [Yg _ _ _ (by rw [hO.1]; decide), hO.1]
    simp [z6]
   have hrd : (s5.upd D (.cells (.list o) false)).read D 0 32 = some o := by
    unfold DS.read
    simp only [DS.upd_get_self, gD5, Option.map_some]
    rw [ZL _ _ _ (by rw [hO.1]; decide)]
    simp only [List.drop_zero]
    rw [List.take_of_length_le (by rw [hO.1]; exact Nat.le_refl _)]
   simp (maxSteps := 4000000) (maxDischargeDepth := 8) only [zI, zc, zg, zn, zt, ze, Zi, zi, Yl, z9, zx, zl, zd, zJ, zb, za, z0, z1, zo, zz, Nat.zero_add, ZA, zD, Bool.and_true, Nat.beq_eq, Nat.ble_eq, Nat.le_refl, if_true, DS.wrC, Cells.size, zZ, Nat.reduceLT, g0, g2', g3, gD5, wD5, hO.1, hO.allOne, hfill9, (YP .u8 32).1, hrd]
   refine hQ _ ⟨by rw [ho]; rfl, ?_⟩
   exact ((XA.trans X3 (by have := X1.le; simp; omega)).trans' X5).trans (Ext.upd (F := [D]) (.inl (by simp))) (by simp; omega)
end
end Go.Dx.RpA
