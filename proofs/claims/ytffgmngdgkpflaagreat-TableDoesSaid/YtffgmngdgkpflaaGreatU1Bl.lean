/- A part. -/
import Derived.Test.YtffgmngdgkpflaaGreatDxTz
import Derived.Test.YtffgmngdgkpflaaGreatDxBl
set_option linter.unusedVariables false
set_option linter.unusedSimpArgs false
set_option linter.unusedSectionVars false
set_option maxRecDepth 100000
set_option maxHeartbeats 8000000
namespace Go.Dx.RpA
open Go Go.Dx Go.Proofs.YtffgmngdgkpflaaGreat
theorem YN : d126 = J0 139 := rfl
theorem Xx : d139 = Vp := rfl
structure En (E : Env) : Prop where
 ffirst : E.fn 104 = some d104
 ifirst : E.intr 104 = none
 fords : E.fn 125 = some d125
 iords : E.intr 125 = none
 fstir : E.fn 126 = some d126
 istir : E.intr 126 = none
 frot : E.fn 139 = some d139
 irot : E.intr 139 = none
 fwork : E.fn 105 = some d105
 iwork : E.intr 105 = none
 fnew : E.fn 70 = some d70
 inew : E.intr 70 = none
 fadd : E.fn 71 = some d71
 iadd : E.intr 71 = none
 fdig : E.fn 72 = some d72
 idig : E.intr 72 = none
 fsum : E.fn 40 = some d40
 isum : E.intr 40 = none
 lf : 10000 ≤ E.lf
structure MI (S : DS) (M p q o : Nat) (lq : List Value) (t : Int) (last : Bool) (n : Nat) (y : St) : Prop where
 ex : ∃ j : Nat, n = 16 - j ∧ j ≤ 16 ∧ y.defers = [] ∧ (y.t.get 0 = some (.pointer (some ⟨p, 0, none⟩)) ∧ y.t.get 1 = some (.pointer (some ⟨q, o, none⟩)) ∧ y.t.get 2 = some (.int .u64 t) ∧ y.t.get 3 = some (.bool last) ∧ y.t.get 8 = some (.pointer (some ⟨M, 0, none⟩)) ∧ y.t.get 9 = some (.pointer (some ⟨M + 1, 0, none⟩)) ∧ y.t.get 16 = some (.int .i64 (j : Int))) ∧
  Ext [M] S y.s ∧ y.s.get M = some (.cells (.list (mF lq o j)) false)
structure RI (S : DS) (M K p : Nat) (lp lq : List Value) (o : Nat) (t : Int) (last : Bool) (n : Nat) (y : St) : Prop where
 ex : ∃ j : Nat, n = 10 - j ∧ j ≤ 10 ∧ y.defers = [] ∧ (y.t.get 0 = some (.pointer (some ⟨p, 0, none⟩)) ∧ y.t.get 8 = some (.pointer (some ⟨M, 0, none⟩)) ∧ y.t.get 9 = some (.pointer (some ⟨M + 1, 0, none⟩)) ∧ y.t.get 79 = some (.pointer (some ⟨K, 0, none⟩)) ∧ y.t.get 81 = some (.int .i64 (j : Int))) ∧
  Ext [M + 1] S y.s ∧ y.s.get (M + 1) = some (.cells (.list (ZZ (mF lq o 16) (v0F lp t last) j)) false)
structure XI (S : DS) (M p : Nat) (lp vv : List Value) (n : Nat) (y : St) : Prop where
 ex : ∃ j : Nat, n = 8 - j ∧ j ≤ 8 ∧ y.defers = [] ∧ (y.t.get 0 = some (.pointer (some ⟨p, 0, none⟩)) ∧ y.t.get 9 = some (.pointer (some ⟨M + 1, 0, none⟩)) ∧ y.t.get 159 = some (.int .i64 (j : Int))) ∧
  Ext [p] S y.s ∧ y.s.get p = some (.cells (.list (QF lp vv j)) false)
structure AI (S : DS) (p : Nat) (Fin : List Value) (m : Nat) (y : St) : Prop where
 ex : ∃ (f : Nat) (H : List Value) (n : Nat) (r : List Int) (v : Value), m = r.length ∧ r.length ≤ f ∧ QB f H r = Fin ∧ HOk H n ∧ y.defers = [] ∧ (y.t.get 0 = some (.pointer (some ⟨p, 0, none⟩)) ∧ y.t.get 1 = some v) ∧
  SlR y.s v r ∧ p ∉ blk v ∧ Ext [p] S y.s ∧ y.s.get p = some (.cells (.list H) false)
structure OI (S : DS) (O D : Nat) (w : List Value) (n : Nat) (y : St) : Prop where
 ex : ∃ j : Nat, n = 8 - j ∧ j ≤ 8 ∧ y.defers = [] ∧ (y.t.get 2 = some (.pointer (some ⟨D, 0, none⟩)) ∧ y.t.get 5 = some (.pointer (some ⟨O, 0, none⟩)) ∧ y.t.get 38 = some (.agg ⟨w⟩) ∧ y.t.get 39 = some (.int .i64 (j : Int))) ∧
  Ext [O] S y.s ∧ y.s.get O = some (.cells (.list (W0 w j)) false)
structure SI (S : DS) (p D b : Nat) (ps : List (Value × List Int)) (m : Nat) (y : St) : Prop where
 ex : ∃ j : Nat, m = ps.length - j ∧ j ≤ ps.length ∧ y.defers = [] ∧ (y.t.get 0 = some (.slice (some ⟨b, 0, none⟩) ps.length ps.length) ∧ y.t.get 2 = some (.pointer (some ⟨D, 0, none⟩)) ∧ y.t.get 3 = some (.pointer (some ⟨p, 0, none⟩)) ∧ y.t.get 7 = some (.slice (some ⟨b, 0, none⟩) ps.length ps.length) ∧ y.t.get 8 = some (.int .i64 (ps.length : Int)) ∧ y.t.get 9 = some (.int .i64 (j : Int))) ∧
  Ext [p] S y.s ∧ y.s.get p = some (.cells (.list (C7 ((ps.map Prod.snd).take j))) false) ∧ ∃ n, HOk (C7 ((ps.map Prod.snd).take j)) n
section
variable {E : Env} (hB : En E) {s : DS} {d : Nat}
include hB
theorem Ct (hG : s.Good) : W (dcall E (d + 1) (.func (.func 104) #[] #[]) [] s) fun r => r.1 = .agg ⟨ivL⟩ ∧ Ext [] s r.2 := by
 refine zr fun Q hQ => ?_
 rw [zh hB.ifirst hB.ffirst rfl]
 simp (maxDischargeDepth := 8) only [sA, sM, zo, za, zd, Cells.get, getN, Nat.reduceAdd, allOne, ze, Nat.reduceLeDiff, DS.wrC, Cells.size, Cells.fillFrom, Cells.set, zk, zg, pp, DS.read, Cells.take, d104, hG]
 refine hQ _ ⟨rfl, ?_⟩
 exact (Ext.new (F := [])).trans (Ext.upd (F := [s.next]) (.inl (by simp))) (by simp)
theorem RE (hG : s.Good) : W (dcall E (d + 1) (.func (.func 125) #[] #[]) [] s) fun r => r.1 = .pointer (some ⟨s.next, 0, none⟩) ∧ Ext [] s r.2 ∧ r.2.get s.next = some (.cells (.list Hv) false) := by
 refine zr fun Q hQ => ?_
 rw [zh hB.iords hB.fords rfl]
 simp (maxDischargeDepth := 8) only [sA, sM, za, zd, Nat.reduceAdd, Nat.reduceLeDiff, zg, pp, pv, Nat.reduceLT, d125, hG]
 refine hQ _ ⟨rfl, Ext.new, ?_⟩
 rw [DS.new_get_self hG]
 rfl
theorem TX {p q o : Nat} {lp lq : List Value} {t : Int} {last : Bool} (hG : s.Good) (gp : s.get p = some (.cells (.list lp) false)) (wp : s.wr p = true) (gq : s.get q = some (.cells (.list lq) false))
 (hp : UA .u32 0 8 lp) (hq : UA .u8 o 64 lq) :
 W (dcall E (d + 3) (.func (.func 105) #[] #[]) [.pointer (some ⟨p, 0, none⟩), .pointer (some ⟨q, o, none⟩), .int .u64 t, .bool last] s)
  fun r => r.1 = .tuple #[] ∧ Ext [p] s r.2 ∧ r.2.get p = some (.cells (.list (Yj lp lq o t last)) false) := by
 have hlf := hB.lf
 have hpl := DS.get_lt' gp
 have hql := DS.get_lt' gq
 refine zr fun Q hQ => ?_
 rw [zh hB.iwork hB.fwork rfl]
 simp (maxDischargeDepth := 8) only [sA, pp, pv, d105, hG]
 obtain ⟨S, hS⟩ : ∃ S : DS, S = (s.new (.cells (.list (zq .u32 16)) false)).new (.cells (.list (zq .u32 16)) false) := ⟨_, rfl⟩
 simp only [show [Value.int .u32 0, .int .u32 0, .int .u32 0, .int .u32 0, .int .u32 0, .int .u32 0, .int .u32 0, .int .u32 0, .int .u32 0, .int .u32 0, .int .u32 0, .int .u32 0, .int .u32 0, .int .u32 0, .int .u32 0, .int .u32 0] = zq .u32 16 from rfl, ← hS]
 have XS : Ext [] s S := by rw [hS]; exact Ext.new.trans' Ext.new
 have hGS := XS.good hG
 have nS : S.next = s.next + 2 := by rw [hS]; rfl
 have gM : S.get s.next = some (.cells (.list (zq .u32 16)) false) := by rw [hS]; simp (maxDischargeDepth := 8) only [sM, zU, hG]
 have gV : S.get (s.next + 1) = some (.cells (.list (zq .u32 16)) false) := by rw [hS]; simp (maxDischargeDepth := 8) only [sM, zU, hG]
 have wM : S.wr s.next = true := XS.wrs (hG _ (Nat.le_refl _)).2
 have wV : S.wr (s.next + 1) = true := XS.wrs (hG _ (Nat.le_succ _)).2
 obtain ⟨M, hM⟩ : ∃ M, M = s.next := ⟨_, rfl⟩
 simp only [← hM] at nS gM gV wM wV hpl hql ⊢
 refine zY (MI S M p q o lq t last) 16 (by omega) ⟨0, rfl, by omega, rfl, ?_, .refl, gM⟩ ?_
 · simp only [sA, Nat.reduceEqDiff, reduceCtorEq]
   rfl
 · rintro n ⟨tt, s2, ds⟩ hn ⟨j, rfl, hj, hds, ⟨g0, g1, g2, g3, g8, g9, g16⟩, X2, gN⟩
   simp only at hds g0 g1 g2 g3 g8 g9 g16 X2 gN
   subst hds
   have wN := X2.wrs wM
   have gq2 := X2.keep (XS.keep gq (by simp)) (by simp; omega)
   by_cases c1 : j < 16
   · have e1 : (j : Int) < 16 := by omega
     have w1 : zf .i64 ((j : Int) + 1) = ((j + 1 : Nat) : Int) := by rw [zi (by omega) (by omega)]; omega
     have w4 : zf .i64 (4 * (j : Int)) = ((4 * j : Nat) : Int) := by rw [zi (by omega) (by omega)]; omega
     have w5 : zf .i64 (((4 * j : Nat) : Int) + 4) = ((4 * j + 4 : Nat) : Int) := by rw [zi (by omega) (by omega)]; omega
     have hbd : Zy 64 64 (some (.int .i64 ((4 * j : Nat) : Int))) (some (.int .i64 ((4 * j + 4 : Nat) : Int))) none = some (4 * j, 4 * j + 4, 64) := by
      unfold Zy
      simp only [Zz, Nat.ble_eq.mpr (show 4 * j + 4 ≤ 64 by omega), Nat.ble_eq.mpr (show 4 * j ≤ 4 * j + 4 by omega), if_true]
     have c15 : j ≤ 15 := by omega
     have l4 : 4 * j + 4 - 4 * j = 4 := by omega
     have b0 := hq.at (i := 4 * j) (by omega)
     have b1 := hq.at (i := 4 * j + 1) (by omega)
     have b2 := hq.at (i := 4 * j + 2) (by omega)
     have b3 := hq.at (i := 4 * j + 3) (by omega)
     simp only [← Nat.add_assoc] at b0 b1 b2 b3
     simp only [sA, zb, zl, zm, Nat.reduceEqDiff, Cells.get, allOne, ze, Nat.reduceLeDiff, DS.wrC, Cells.size, Cells.fillFrom, Cells.set, g0, g1, g2, g3, g8, g9, g16, e1, w1, w4, w5, hbd, ZU, l4, b0, b1, b2, b3, gN, gq2, wN, MZ, HN, HJ, HI, Nat.reduceLT, c1, (P4 lq o j).1, Lb, Pv, Pu, c15]
     refine ⟨16 - (j + 1), by omega, ⟨j + 1, rfl, by omega, rfl, by simp only [sA, Nat.reduceEqDiff, reduceCtorEq, g0, g1, g2, g3, g8, g9], X2.trans' (Ext.upd (.inl (by simp))), ?_⟩⟩
     simp only [sA, gN]
     rfl
   · obtain rfl : j = 16 := by omega
     have e1 : ¬ ((16 : Nat) : Int) < 16 := by omega
     simp only [sA, zl, zm, g0, g1, g2, g3, g8, g9, g16, e1]
     have XA := XS.trans X2 (by simp [hM])
     have hG2 := X2.good hGS
     have mM := (P4 lq o 16).1
     refine W.mono (Ct hB hG2) ?_
     rintro ⟨v3, s3⟩ ⟨h3, X3⟩
     simp only at h3 X3
     subst h3
     have hG3 := X3.good hG2
     simp (maxDischargeDepth := 8) only [sA, sM, zb, Nat.reduceAdd, allOne, ze, DS.wrC, Cells.size, Cells.fillFrom, Cells.set, zk, Nat.reduceLT, g0, g1, g2, g3, g8, g9, hG3, ivL]
     obtain ⟨S4, hS4⟩ : ∃ S4 : DS, S4 = (s3.new (.cells (.list [.int .u32 0, .int .u32 0, .int .u32 0, .int .u32 0, .int .u32 0, .int .u32 0, .int .u32 0, .int .u32 0]) false)).upd s3.next (.cells (.list [.int .u32 1779033703, .int .u32 3144134277, .int .u32 1013904242, .int .u32 2773480762, .int .u32 1359893119, .int .u32 2600822924, .int .u32 528734635, .int .u32 1541459225]) false) := ⟨_, rfl⟩
     rw [← hS4]
     have X4 : Ext [] s3 S4 := by rw [hS4]; exact (Ext.new (F := [])).trans (Ext.upd (F := [s3.next]) (.inl (by simp))) (by simp)
     have gK4 : S4.get s3.next = some (.cells (.list ivL) false) := by rw [hS4]; simp (maxDischargeDepth := 8) only [sA, zR, hG3]; rfl
     have XB := X3.trans' X4
     have gp4 := XB.keep (XA.keep gp (by simp)) (by simp)
     have gV4 := XB.keep (X2.keep gV (by simp)) (by simp)
     have wV4 := XB.wrs (X2.wrs wV)
     simp only [sA, zb, Nat.reduceEqDiff, reduceCtorEq, g0, g1, g2, g3, g8, g9, JQ, ZU, Du]
     refine W.mono (VA gV4 wV4 (by rw [(Zi .u32 16).1]; omega) (Tj gp4 (by have := hp.1; omega)) hp.cut.one) ?_
     rintro ⟨v5, s5⟩ ⟨h5, X5, g5⟩
     simp only at h5 X5 g5
     subst h5
     rw [H3 hp] at g5
     simp only [sA, zb, Nat.reduceEqDiff, g0, g1, g2, g3, g8, g9, JQ, NM, ZU, Du]
     have wV5 := X5.wrs wV4
     have n3 : M + 2 ≤ s3.next := by have := X2.le; have := X3.le; omega
     refine W.mono (VA g5 wV5 (by rw [(hp.cut.app (Zi .u32 8)).1]; decide) (Tj (X5.keep gK4 (by simp; omega)) (Nat.le_refl 8)) (fun x hx => HC.one x (List.mem_of_mem_drop (List.mem_of_mem_take hx)))) ?_
     rintro ⟨v6, s6⟩ ⟨h6, X6, g6⟩
     simp only at h6 X6 g6
     subst h6
     rw [H1 hp] at g6
     have hU := Ph hp
     have u12 := hU.at (i := 12) (by decide)
     have u13 := hU.at (i := 13) (by decide)
     have u14 := hU.at (i := 14) (by decide)
     have wV6 := X6.wrs wV5
     simp only [sA, zb, zl, zm, Nat.reduceEqDiff, Cells.get, Nat.reduceAdd, allOne, ze, Nat.reduceLeDiff, DS.wrC, Cells.size, Cells.fillFrom, Cells.set, g0, g1, g2, g3, g8, g9, g6, wV6, u12, u13, u14, hU.1, CZ, CY, CX, Nat.reduceLT, zI, YW, ne_eq, VL]
     refine JN (K := fun e y => e = .normal ∧ y.defers = [] ∧ (y.t.get 0 = some (.pointer (some ⟨p, 0, none⟩)) ∧ y.t.get 8 = some (.pointer (some ⟨M, 0, none⟩)) ∧ y.t.get 9 = some (.pointer (some ⟨M + 1, 0, none⟩))) ∧ Ext [M + 1] s6 y.s ∧ y.s.get (M + 1) = some (.cells (.list (v0F lp t last)) false)) ?_ ?_
     · cases last
       · simp only [sA, Nat.reduceEqDiff, reduceCtorEq, g0, g1, g2, g3, g8, g9, g6]
         exact ⟨(Ext.upd (.inl (by simp))).trans' (Ext.upd (.inl (by simp))), rfl⟩
       · simp only [sA, zb, zm, Nat.reduceEqDiff, Cells.get, Nat.reduceAdd, allOne, ze, Nat.reduceLeDiff, reduceCtorEq, DS.wrC, Cells.size, Cells.fillFrom, Cells.set, g0, g1, g2, g3, g8, g9, g6, wV6, u12, u13, u14, hU.1, CZ, CY, CX, Nat.reduceLT, zI, YW, ne_eq, VL]
         exact ⟨((Ext.upd (.inl (by simp))).trans' (Ext.upd (.inl (by simp)))).trans' (Ext.upd (.inl (by simp))), rfl⟩
     · rintro e ⟨t7, s7, ds⟩ ⟨rfl, h7, ⟨g0, g8, g9⟩, X7, g7⟩
       simp only at h7 g0 g8 g9 X7 g7
       subst h7
       have hU7 := Hi hp t last
       have XC := (X6.weaken (G := [M + 1]) (fun k hk => .inl hk)).trans' X7
       have XD := (X5.weaken (G := [M + 1]) (fun k hk => .inl hk)).trans' XC
       have hG7 := XD.good (XB.good hG2)
       have gp7 := XD.keep gp4 (by simp; omega)
       have wp7 := XD.wrs (XB.wrs (XA.wrs wp))
       have wV7 := XD.wrs wV4
       have gM7 := XD.keep (XB.keep gN (by simp)) (by simp)
       have n7 : M + 2 ≤ s7.next := by have := XD.le; have := XB.le; have := X2.le; omega
       clear hS4 X4 gK4 hU u12 u13 u14
       simp only [sA]
       refine W.mono (RE hB hG7) ?_
       rintro ⟨v8, s8⟩ ⟨h8, X8, g88⟩
       simp only at h8 X8 g88
       subst h8
       obtain ⟨K, hK⟩ : ∃ K, K = s7.next := ⟨_, rfl⟩
       simp only [← hK] at g88 n7 ⊢
       simp only [sA, zb, g0, g8, g9]
       refine zY (RI s8 M K p lp lq o t last) 10 (by omega) ⟨0, rfl, by omega, rfl, ?_, .refl, X8.keep g7 (by simp)⟩ ?_
       · simp only [sA, Nat.reduceEqDiff, reduceCtorEq, g0, g8, g9]
         rfl
       · rintro n ⟨t9, s9, ds⟩ hn ⟨j, rfl, hj, hds, ⟨g0, g8, g9, g79, g81⟩, X9, gV9⟩
         simp only at hds g0 g8 g9 g79 g81 X9 gV9
         subst hds
         have hG8 := X8.good hG7
         have hG9 := X9.good hG8
         have hUj := hU7.rounds (m := mF lq o 16) j
         have gM9 := X9.keep (X8.keep gM7 (by simp)) (by simp)
         have wV9 := X9.wrs (X8.wrs wV7)
         by_cases c1 : j < 10
         · have e1 : (j : Int) < 10 := by omega
           have w1 : zf .i64 ((j : Int) + 1) = ((j + 1 : Nat) : Int) := by rw [zi (by omega) (by omega)]; omega
           have hld : ldA 16 (.pointer (some ⟨K, j * 16, none⟩)) s9 = some (.agg ⟨VQ j⟩) := by
            unfold ldA DS.read
            simp only [X9.keep g88 (by simp; omega), PW j c1]
           have hfill : (Cells.list [.int .u8 0, .int .u8 0, .int .u8 0, .int .u8 0, .int .u8 0, .int .u8 0, .int .u8 0, .int .u8 0, .int .u8 0, .int .u8 0, .int .u8 0, .int .u8 0, .int .u8 0, .int .u8 0, .int .u8 0, .int .u8 0]).fillFrom 0 (VQ j) = .list (VQ j) := by
            rw [ZC _ _ _ (by rw [Vo j c1]; decide), Vo j c1]
            simp
           simp (maxDischargeDepth := 8) only [sA, sM, zb, zl, zm, Nat.reduceAdd, DS.wrC, Cells.size, Nat.reduceLT, g0, g8, g9, g79, g81, e1, w1, c1, hld, hG9, Vo j c1, Ms j c1, hfill]
           obtain ⟨T0, hT0⟩ : ∃ T0 : DS, T0 = (s9.new (.cells (.list [.int .u8 0, .int .u8 0, .int .u8 0, .int .u8 0, .int .u8 0, .int .u8 0, .int .u8 0, .int .u8 0, .int .u8 0, .int .u8 0, .int .u8 0, .int .u8 0, .int .u8 0, .int .u8 0, .int .u8 0, .int .u8 0]) false)).upd s9.next (.cells (.list (VQ j)) false) := ⟨_, rfl⟩
           rw [← hT0]
           have Y0 : Ext [] s9 T0 := by rw [hT0]; exact (Ext.new (F := [])).trans (Ext.upd (F := [s9.next]) (.inl (by simp))) (by simp)
           have gR0 : T0.get s9.next = some (.cells (.list (VQ j)) false) := by rw [hT0]; simp (maxDischargeDepth := 8) only [sA, zR, hG9]
           have n9 : M + 2 ≤ s9.next := by have := X9.le; have := X8.le; omega
           have gM0 := Y0.keep gM9 (by simp)
           have gV0 := Y0.keep gV9 (by simp)
           have wV0 := Y0.wrs wV9
           have hU0 := hUj
           have ra := fun {i : Nat} (hi : i < 16) => PV c1 hi
           have rl := fun {i : Nat} (hi : i < 16) => KD j c1 i hi
           have rm := fun {i : Nat} (hi : i < 16) => (P4 lq o 16).at (KD j c1 i hi)
           simp (maxDischargeDepth := 8) only [sA, sM, zb, Cells.get, Nat.reduceLT, g0, g8, g9, g79, g81, gR0, gM0, MZ, HN, CW, ra (i := 0) (by decide), ra (i := 1) (by decide), rl (i := 0) (by decide), rl (i := 1) (by decide), rm (i := 0) (by decide), rm (i := 1) (by decide), Nat.reduceLT]
           refine W.mono (QO (hB.fstir.trans (congrArg some YN)) hB.istir (hB.frot.trans (congrArg some Xx)) hB.irot 0 4 8 12 gV0 wV0 hU0 rfl d) ?_
           rintro ⟨v1, T1⟩ ⟨h1, Y1, gV1⟩
           simp only at h1 Y1 gV1
           subst h1
           have gR1 := Y1.keep gR0 (by simp; omega)
           have gM1 := Y1.keep gM0 (by simp)
           have wV1 := Y1.wrs wV0
           have hU1 := hU0.stir 0 4 8 12 (nAt (mF lq o 16) (Yq j 0)) (nAt (mF lq o 16) (Yq j 1))
           simp (maxDischargeDepth := 8) only [sA, sM, zb, Cells.get, Nat.reduceLT, g0, g8, g9, g79, g81, gR1, gM1, HJ, HI, CW, ra (i := 2) (by decide), ra (i := 3) (by decide), rl (i := 2) (by decide), rl (i := 3) (by decide), rm (i := 2) (by decide), rm (i := 3) (by decide), Nat.reduceLT]
           refine W.mono (QO (hB.fstir.trans (congrArg some YN)) hB.istir (hB.frot.trans (congrArg some Xx)) hB.irot 1 5 9 13 gV1 wV1 hU1 rfl d) ?_
           rintro ⟨v2, T2⟩ ⟨h2, Y2, gV2⟩
           simp only at h2 Y2 gV2
           subst h2
           have gR2 := Y2.keep gR1 (by simp; omega)
           have gM2 := Y2.keep gM1 (by simp)
           have wV2 := Y2.wrs wV1
           have hU2 := hU1.stir 1 5 9 13 (nAt (mF lq o 16) (Yq j 2)) (nAt (mF lq o 16) (Yq j 3))
           simp (maxDischargeDepth := 8) only [sA, sM, zb, Cells.get, Nat.reduceLT, g0, g8, g9, g79, g81, gR2, gM2, Ej, Ei, CW, ra (i := 4) (by decide), ra (i := 5) (by decide), rl (i := 4) (by decide), rl (i := 5) (by decide), rm (i := 4) (by decide), rm (i := 5) (by decide), Nat.reduceLT]
           refine W.mono (QO (hB.fstir.trans (congrArg some YN)) hB.istir (hB.frot.trans (congrArg some Xx)) hB.irot 2 6 10 14 gV2 wV2 hU2 rfl d) ?_
           rintro ⟨v3, T3⟩ ⟨h3, Y3, gV3⟩
           simp only at h3 Y3 gV3
           subst h3
           have gR3 := Y3.keep gR2 (by simp; omega)
           have gM3 := Y3.keep gM2 (by simp)
           have wV3 := Y3.wrs wV2
           have hU3 := hU2.stir 2 6 10 14 (nAt (mF lq o 16) (Yq j 4)) (nAt (mF lq o 16) (Yq j 5))
           simp (maxDischargeDepth := 8) only [sA, sM, zb, Cells.get, Nat.reduceLT, g0, g8, g9, g79, g81, gR3, gM3, Eh, Eg, CW, ra (i := 6) (by decide), ra (i := 7) (by decide), rl (i := 6) (by decide), rl (i := 7) (by decide), rm (i := 6) (by decide), rm (i := 7) (by decide), Nat.reduceLT]
           refine W.mono (QO (hB.fstir.trans (congrArg some YN)) hB.istir (hB.frot.trans (congrArg some Xx)) hB.irot 3 7 11 15 gV3 wV3 hU3 rfl d) ?_
           rintro ⟨v4, T4⟩ ⟨h4, Y4, gV4⟩
           simp only at h4 Y4 gV4
           subst h4
           have gR4 := Y4.keep gR3 (by simp; omega)
           have gM4 := Y4.keep gM3 (by simp)
           have wV4 := Y4.wrs wV3
           have hU4 := hU3.stir 3 7 11 15 (nAt (mF lq o 16) (Yq j 6)) (nAt (mF lq o 16) (Yq j 7))
           simp (maxDischargeDepth := 8) only [sA, sM, zb, Cells.get, Nat.reduceLT, g0, g8, g9, g79, g81, gR4, gM4, Ef, Ee, CW, ra (i := 8) (by decide), ra (i := 9) (by decide), rl (i := 8) (by decide), rl (i := 9) (by decide), rm (i := 8) (by decide), rm (i := 9) (by decide), Nat.reduceLT]
           refine W.mono (QO (hB.fstir.trans (congrArg some YN)) hB.istir (hB.frot.trans (congrArg some Xx)) hB.irot 0 5 10 15 gV4 wV4 hU4 rfl d) ?_
           rintro ⟨v5, T5⟩ ⟨h5, Y5, gV5⟩
           simp only at h5 Y5 gV5
           subst h5
           have gR5 := Y5.keep gR4 (by simp; omega)
           have gM5 := Y5.keep gM4 (by simp)
           have wV5 := Y5.wrs wV4
           have hU5 := hU4.stir 0 5 10 15 (nAt (mF lq o 16) (Yq j 8)) (nAt (mF lq o 16) (Yq j 9))
           simp (maxDischargeDepth := 8) only [sA, sM, zb, Cells.get, Nat.reduceLT, g0, g8, g9, g79, g81, gR5, gM5, HM, HL, CW, ra (i := 10) (by decide), ra (i := 11) (by decide), rl (i := 10) (by decide), rl (i := 11) (by decide), rm (i := 10) (by decide), rm (i := 11) (by decide), Nat.reduceLT]
           refine W.mono (QO (hB.fstir.trans (congrArg some YN)) hB.istir (hB.frot.trans (congrArg some Xx)) hB.irot 1 6 11 12 gV5 wV5 hU5 rfl d) ?_
           rintro ⟨v6, T6⟩ ⟨h6, Y6, gV6⟩
           simp only at h6 Y6 gV6
           subst h6
           have gR6 := Y6.keep gR5 (by simp; omega)
           have gM6 := Y6.keep gM5 (by simp)
           have wV6 := Y6.wrs wV5
           have hU6 := hU5.stir 1 6 11 12 (nAt (mF lq o 16) (Yq j 10)) (nAt (mF lq o 16) (Yq j 11))
           simp (maxDischargeDepth := 8) only [sA, sM, zb, Cells.get, Nat.reduceLT, g0, g8, g9, g79, g81, gR6, gM6, CZ, CY, CW, ra (i := 12) (by decide), ra (i := 13) (by decide), rl (i := 12) (by decide), rl (i := 13) (by decide), rm (i := 12) (by decide), rm (i := 13) (by decide), Nat.reduceLT]
           refine W.mono (QO (hB.fstir.trans (congrArg some YN)) hB.istir (hB.frot.trans (congrArg some Xx)) hB.irot 2 7 8 13 gV6 wV6 hU6 rfl d) ?_
           rintro ⟨v7, T7⟩ ⟨h7, Y7, gV7⟩
           simp only at h7 Y7 gV7
           subst h7
           have gR7 := Y7.keep gR6 (by simp; omega)
           have gM7 := Y7.keep gM6 (by simp)
           have wV7 := Y7.wrs wV6
           have hU7 := hU6.stir 2 7 8 13 (nAt (mF lq o 16) (Yq j 12)) (nAt (mF lq o 16) (Yq j 13))
           simp (maxDischargeDepth := 8) only [sA, sM, zb, Cells.get, Nat.reduceLT, g0, g8, g9, g79, g81, gR7, gM7, CX, HK, CW, ra (i := 14) (by decide), ra (i := 15) (by decide), rl (i := 14) (by decide), rl (i := 15) (by decide), rm (i := 14) (by decide), rm (i := 15) (by decide), Nat.reduceLT]
           refine W.mono (QO (hB.fstir.trans (congrArg some YN)) hB.istir (hB.frot.trans (congrArg some Xx)) hB.irot 3 4 9 14 gV7 wV7 hU7 rfl d) ?_
           rintro ⟨v8, T8⟩ ⟨h8, Y8, gV8⟩
           simp only at h8 Y8 gV8
           subst h8
           have gR8 := Y8.keep gR7 (by simp; omega)
           have gM8 := Y8.keep gM7 (by simp)
           have wV8 := Y8.wrs wV7
           have hU8 := hU7.stir 3 4 9 14 (nAt (mF lq o 16) (Yq j 14)) (nAt (mF lq o 16) (Yq j 15))
           simp only [sA, zl, zm, Nat.reduceEqDiff, g0, g8, g9, g79, g81, w1]
           refine ⟨10 - (j + 1), by omega, ⟨j + 1, rfl, by omega, rfl, by simp only [sA, Nat.reduceEqDiff, reduceCtorEq, g0, g8, g9, g79, g81], X9.trans' ((Y0.weaken (by simp)).trans' (Y1.trans' (Y2.trans' (Y3.trans' (Y4.trans' (Y5.trans' (Y6.trans' (Y7.trans' Y8)))))))), ?_⟩⟩
           exact gV8
         · obtain rfl : j = 10 := by omega
           have e1 : ¬ ((10 : Nat) : Int) < 10 := by omega
           simp only [sA, zl, zm, g0, g8, g9, g79, g81, e1]
           have hVV := hU7.rounds (m := mF lq o 16) 10
           have gp9 := X9.keep (X8.keep gp7 (by simp)) (by simp; omega)
           have wp9 := X9.wrs (X8.wrs wp7)
           have hne : ¬ M + 1 = p := by omega
           have hfin : ∀ sf, Ext [p] s9 sf → Ext [p] s sf := fun sf h => by
            have a1 : Ext [] s S4 := XA.trans' XB
            have a2 : Ext [] s s7 := a1.trans XD (by have := XB.le; have := XA.le; simp; omega)
            have a3 : Ext [] s s9 := (a2.trans' X8).trans X9 (by simp; omega)
            exact (a3.weaken (by simp)).trans' h
           refine zY (XI s9 M p lp (ZZ (mF lq o 16) (v0F lp t last) 10)) 8 (by omega) ⟨0, rfl, by omega, rfl, ?_, .refl, gp9⟩ ?_
           · simp only [sA, Nat.reduceEqDiff, reduceCtorEq, g0, g8, g9]
             rfl
           rintro n ⟨ta, sa, ds⟩ hn ⟨j, rfl, hj, hds, ⟨g0, g9, g159⟩, Xa, ga⟩
           simp only at hds g0 g9 g159 Xa ga
           subst hds
           have wpa := Xa.wrs wp9
           by_cases c1 : j < 8
           · have e1 : (j : Int) < 8 := by omega
             have w1 : zf .i64 ((j : Int) + 1) = ((j + 1 : Nat) : Int) := by rw [zi (by omega) (by omega)]; omega
             have w8 : zf .i64 ((j : Int) + 8) = ((j + 8 : Nat) : Int) := by rw [zi (by omega) (by omega)]; omega
             have gVa := Xa.keep gV9 (by simp; omega)
             have hpj : getN (QF lp (ZZ (mF lq o 16) (v0F lp t last) 10) j) j = some (.int .u32 (nAt lp j)) := by
              rw [JW (Nat.le_refl _)]
              have := hp.at c1
              rwa [Nat.zero_add] at this
             have hv1 := hVV.at (i := j) (by omega)
             have hv2 := hVV.at (i := j + 8) (by omega)
             have l16 : j < 16 := by omega
             have l16' : j + 8 < 16 := by omega
             have hle : j + 1 ≤ lp.length := by have := hp.1; omega
             simp only [sA, zb, zl, zm, Nat.reduceEqDiff, Cells.get, allOne, ze, reduceCtorEq, DS.wrC, Cells.size, Cells.fillFrom, Cells.set, g0, g9, g159, e1, w1, w8, c1, gVa, ga, hpj, hv1, hv2, l16, l16', wpa, VD, hle]
             refine ⟨8 - (j + 1), by omega, ⟨j + 1, rfl, by omega, rfl, by simp only [sA, Nat.reduceEqDiff, reduceCtorEq, g0, g9], Xa.trans' (Ext.upd (.inl (by simp))), ?_⟩⟩
             simp only [sA, ga]
             rfl
           · obtain rfl : j = 8 := by omega
             have e1 : ¬ ((8 : Nat) : Int) < 8 := by omega
             simp only [sA, zl, zm, za, zd, g0, g9, g159, e1]
             exact hQ _ ⟨rfl, hfin _ Xa, ga⟩
theorem LU (hG : s.Good) : W (dcall E (d + 2) (.func (.func 70) #[] #[]) [] s) fun r => ∃ p, r.1 = .pointer (some ⟨p, 0, none⟩) ∧ s.next ≤ p ∧ Ext [] s r.2 ∧ r.2.get p = some (.cells (.list h0L) false) ∧ r.2.wr p = true := by
 refine zr fun Q hQ => ?_
 rw [zh hB.inew hB.fnew rfl]
 simp only [sA, pp, pv, d70]
 refine W.mono (Ct hB hG) ?_
 rintro ⟨v3, s3⟩ ⟨h3, X3⟩
 simp only at h3 X3
 subst h3
 have hG3 := X3.good hG
 simp (maxDischargeDepth := 8) only [sA, sM, zb, zl, zm, za, zd, Cells.get, getN, Nat.reduceAdd, allOne, ze, Nat.reduceLeDiff, DS.wrC, Cells.size, Cells.fillFrom, Cells.set, zk, zg, Nat.reduceLT, hG3, ivL, MZ]
 refine hQ _ ⟨s3.next, rfl, X3.le, X3.trans' ((Ext.new (F := [])).trans (Ext.upd (F := [s3.next]) (.inl (by simp))) (by simp)), ?_, ?_⟩
 · rw [DS.upd_get_self, DS.new_get_self hG3]; rfl
 · rw [DS.upd_wr]; exact (hG3 _ (Nat.le_refl _)).2
theorem Hb {p n : Nat} {H : List Value} {y : Value} {r : List Int} {f : Nat} (hG : s.Good) (gp : s.get p = some (.cells (.list H) false)) (wp : s.wr p = true) (hH : HOk H n) (hy : SlR s y r) (hpy : p ∉ blk y) (hf : r.length ≤ f) (hlf : r.length < E.lf) :
 W (dcall E (d + 4) (.func (.func 71) #[] #[]) [.pointer (some ⟨p, 0, none⟩), y] s) fun r' => Ext [p] s r'.2 ∧ r'.2.get p = some (.cells (.list (QB f H r)) false) ∧ ∃ n', HOk (QB f H r) n' := by
 have hpl := DS.get_lt' gp
 refine zr fun Q hQ => ?_
 rw [zh hB.iadd hB.fadd rfl]
 simp only [sA, zJ, reduceCtorEq, pp, pv, d71]
 refine zY (AI s p (QB f H r)) r.length hlf ⟨f, H, n, r, y, rfl, hf, rfl, hH, rfl, ?_, hy, hpy, .refl, gp⟩ ?_
 · simp only [sA, Nat.reduceEqDiff, reduceCtorEq]
 rintro m ⟨tt, s2, ds⟩ hm ⟨f2, H2, n2, r2, y2, rfl, hf2, hFin, hH2, hds, ⟨g0, g1⟩, hy2, hpy2, X2, gp2⟩
 simp only at hds g0 g1 hy2 X2 gp2
 subst hds
 obtain ⟨ya, yc, rfl⟩ := hy2.len
 have hG2 := X2.good hG
 have wp2 := X2.wrs wp
 by_cases c1 : 0 < r2.length
 · have e1 : (0 : Int) < (r2.length : Int) := by omega
   have hn72 := hH2.hn
   simp only [sA, zb, zl, zm, Cells.get, reduceCtorEq, g0, g1, e1, gp2, hn72]
   have hcnt := hH2.cnt
   have hlen := hH2.len
   have ha73 := hH2.ha
   refine JN (K := fun e y => e = .normal ∧ y.defers = [] ∧ (y.t.get 0 = some (.pointer (some ⟨p, 0, none⟩)) ∧ y.t.get 1 = some (.slice ya r2.length yc)) ∧ Ext [p] s2 y.s ∧ y.s.get p = some (.cells (.list (Za H2)) false)) ?_ ?_
   · by_cases c2 : n2 = 64
     · have e2 : ((n2 : Int) = 64) := by omega
       have hfl : Za H2 = YI H2 := by unfold Za; rw [if_pos (by rw [hcnt]; exact c2)]
       have hs73 : getN (zk H2 73 (.int .u64 (zf .u64 (nAt H2 73 + 64)))) 73 = some (.int .u64 (zf .u64 (nAt H2 73 + 64))) := WM (by rw [ha73]; rfl)
       simp only [sA, zb, zl, zm, Nat.reduceEqDiff, Cells.get, Nat.reduceAdd, allOne, ze, reduceCtorEq, DS.wrC, Cells.size, Cells.fillFrom, Cells.set, g0, g1, gp2, wp2, e2, ha73, hlen, hs73]
       refine W.mono (TX hB (lp := zk H2 73 (.int .u64 (zf .u64 (nAt H2 73 + 64)))) (lq := zk H2 73 (.int .u64 (zf .u64 (nAt H2 73 + 64)))) ?_ ?_ ?_ ?_ (hH2.hw.other (.inr (by omega))) (hH2.hb.other (.inr (by omega)))) ?_
       · rw [DS.upd_good]; exact hG2
       · simp only [sA, gp2]
       · simp only [DS.upd_wr, wp2]
       · simp only [sA, gp2]
       rintro ⟨v3, s3⟩ ⟨h3, X3, g3⟩
       simp only at h3 X3 g3
       subst h3
       have wp3 : s3.wr p = true := X3.wrs (by simp only [DS.upd_wr, wp2])
       simp only [sA, zb, Nat.reduceEqDiff, Nat.reduceAdd, allOne, ze, Nat.reduceLeDiff, reduceCtorEq, DS.wrC, Cells.size, Cells.fillFrom, Cells.set, g0, g1, g3, wp3, QG, zI, hlen]
       refine ⟨(Ext.upd (.inl (by simp))).trans' (X3.trans' (Ext.upd (.inl (by simp)))), ?_⟩
       rw [hfl]; rfl
     · have e2 : ¬ ((n2 : Int) = 64) := by omega
       have hfl : Za H2 = H2 := by unfold Za; rw [if_neg (by rw [hcnt]; exact c2)]
       simp only [sA, Nat.reduceEqDiff, reduceCtorEq, g0, g1, gp2, e2, hfl]
       exact .refl
   · rintro e ⟨t3, s3, ds⟩ ⟨rfl, h3, ⟨g0, g1⟩, X3, g3⟩
     simp only at h3 g0 g1 X3 g3
     subst h3
     obtain ⟨n3, hn3, hH3, hc3⟩ := hH2.full
     have hn72' := hH3.hn
     have hl3 := hH3.len
     have wp3 := X3.wrs wp2
     have hy3 := hy2.keep X3 (fun k hk => by simp; rintro rfl; exact hpy2 hk)
     have hbd : Zy 64 64 (some (.int .i64 (n3 : Int))) none none = some (n3, 64, 64) := by
      unfold Zy
      simp only [Zz, Nat.ble_eq.mpr (show n3 ≤ 64 by omega), if_true]
     simp only [sA, zb, Nat.reduceEqDiff, Cells.get, reduceCtorEq, g0, g1, g3, hn72', hbd, ZU, Du]
     refine W.mono (VA g3 wp3 (by rw [hl3]; omega) hy3.view (DE r2).one) ?_
     rintro ⟨v4, s4⟩ ⟨h4, X4, g4⟩
     simp only at h4 X4 g4
     subst h4
     rw [← hc3] at g4
     have hl4 := F7 hH3 r2
     have hg4 := Vt hH3 r2 (i := 72) (.inr (by omega))
     rw [hn72'] at hg4
     have hc : min (64 - n3) (u8s r2).length = min (64 - n3) r2.length := by rw [(DE r2).1]
     obtain ⟨c, hcc⟩ : ∃ c, c = min (64 - n3) r2.length := ⟨_, rfl⟩
     have hcle : c ≤ r2.length := by omega
     have hput : HOk (Yr (Za H2) r2) (n3 + c) := by rw [hcc]; exact hH3.put r2
     have hpf : Yr (Za H2) r2 = zk ((Za H2).take (8 + nOf (Za H2)) ++ ((u8s r2).take (min (64 - nOf (Za H2)) (u8s r2).length) ++ (Za H2).drop (8 + nOf (Za H2) + min (64 - nOf (Za H2)) (u8s r2).length))) 72 (.int .i64 ((n3 + c : Nat) : Int)) := by
      unfold Yr
      rw [hcc, hc3]
     obtain ⟨L4, hL4⟩ : ∃ L4, L4 = (Za H2).take (8 + nOf (Za H2)) ++ ((u8s r2).take (min (64 - nOf (Za H2)) (u8s r2).length) ++ (Za H2).drop (8 + nOf (Za H2) + min (64 - nOf (Za H2)) (u8s r2).length)) := ⟨_, rfl⟩
     rw [← hL4] at g4 hl4 hg4 hpf
     rw [hc, ← hcc]
     have w1 : zf .i64 ((n3 : Int) + (c : Int)) = ((n3 + c : Nat) : Int) := by rw [zi (by omega) (by omega)]; omega
     have hy4 := hy3.keep X4 (fun k hk => by simp; rintro rfl; exact hpy2 hk)
     obtain ⟨w, hw, hyw, hbw⟩ := hy4.drop hcle
     have wp4 := X4.wrs wp3
     simp only [sA, zb, zl, zm, Nat.reduceEqDiff, Cells.get, Nat.reduceAdd, allOne, ze, Nat.reduceLeDiff, reduceCtorEq, DS.wrC, Cells.size, Cells.fillFrom, Cells.set, g0, g1, g4, hg4, hl4, w1, wp4, hw]
     have XU : Ext [p] s4 (s4.upd p (.cells (.list (zk L4 72 (.int .i64 ((n3 + c : Nat) : Int)))) false)) := Ext.upd (.inl (by simp))
     refine ⟨(r2.drop c).length, by rw [List.length_drop]; omega, ⟨f2 - 1, Yr (Za H2) r2, n3 + c, r2.drop c, w, rfl, by rw [List.length_drop]; omega, ?_, hput, rfl, by simp only [sA, reduceCtorEq, g0, g1], hyw.keep XU (fun k hk => by simp; rintro rfl; exact hpy2 (hbw _ hk)), fun hk => hpy2 (hbw _ hk), X2.trans' (X3.trans' (X4.trans' XU)), ?_⟩⟩
     · rw [← hFin]
       obtain ⟨x, r3, rfl⟩ : ∃ x r3, r2 = x :: r3 := by
        cases r2 with
        | nil => simp at c1
        | cons x r3 => exact ⟨x, r3, rfl⟩
       obtain ⟨f3, rfl⟩ : ∃ f3, f2 = f3 + 1 := ⟨f2 - 1, by simp at hf2; omega⟩
       show _ = QB f3 (Yr (Za H2) (x :: r3)) ((x :: r3).drop (min (64 - nOf (Za H2)) (x :: r3).length))
       rw [hc3, ← hcc]; rfl
     · simp only [sA, g4]
       rw [hpf]
 · have hr : r2 = [] := List.eq_nil_of_length_eq_zero (by omega)
   subst hr
   have e1 : ¬ (0 : Int) < (([] : List Int).length : Int) := by simp
   have hend : QB f2 H2 [] = H2 := by cases f2 <;> rfl
   rw [hend] at hFin
   have e0 : ¬ (0 : Int) < ((0 : Nat) : Int) := by decide
   simp only [sA, zb, zl, zm, za, zd, reduceCtorEq, g0, g1, e1, e0]
   refine hQ _ ⟨X2, ?_, n2, ?_⟩
   · rw [← hFin]; exact gp2
   · rw [← hFin]; exact hH2
theorem L7 {p n : Nat} {H : List Value} (hG : s.Good) (gp : s.get p = some (.cells (.list H) false)) (hH : HOk H n) :
 W (dcall E (d + 4) (.func (.func 72) #[] #[]) [.pointer (some ⟨p, 0, none⟩)] s) fun r => r.1 = .agg ⟨Dn H⟩ ∧ Ext [] s r.2 := by
 have hpl := DS.get_lt' gp
 have hlf := hB.lf
 refine zr fun Q hQ => ?_
 rw [zh hB.idig hB.fdig rfl]
 have hld : ∀ z, ldA 8 (.pointer (some ⟨p, 0, none⟩)) (s.new z) = some (.agg ⟨cut 0 8 H⟩) := fun z => by
  unfold ldA DS.read
  simp only [DS.new_get_lt hpl, gp]
  rw [zQ _ _ _ (by rw [hH.len]; decide)]; rfl
 have hfill : (Cells.list [.int .u32 0, .int .u32 0, .int .u32 0, .int .u32 0, .int .u32 0, .int .u32 0, .int .u32 0, .int .u32 0]).fillFrom 0 (cut 0 8 H) = .list (cut 0 8 H) := by
  rw [ZC _ _ _ (by rw [hH.hw.cut.1]; decide), hH.hw.cut.1]
  simp
 simp (maxDischargeDepth := 8) only [sA, sM, zb, zJ, Nat.reduceAdd, allOne, ze, DS.wrC, Cells.size, Cells.fillFrom, Cells.set, zk, zg, pp, pv, Nat.reduceLT, d72, gp, hG, hpl, hld, hH.hw.cut.1, hH.hw.cut.allOne, hfill]
 obtain ⟨S5, hS5⟩ : ∃ S5 : DS, S5 = ((((s.new (.cells (.list [.int .u8 0, .int .u8 0, .int .u8 0, .int .u8 0, .int .u8 0, .int .u8 0, .int .u8 0, .int .u8 0, .int .u8 0, .int .u8 0, .int .u8 0, .int .u8 0, .int .u8 0, .int .u8 0, .int .u8 0, .int .u8 0, .int .u8 0, .int .u8 0, .int .u8 0, .int .u8 0, .int .u8 0, .int .u8 0, .int .u8 0, .int .u8 0, .int .u8 0, .int .u8 0, .int .u8 0, .int .u8 0, .int .u8 0, .int .u8 0, .int .u8 0, .int .u8 0]) false)).new (.cells (.list [.int .u32 0, .int .u32 0, .int .u32 0, .int .u32 0, .int .u32 0, .int .u32 0, .int .u32 0, .int .u32 0]) false)).new (.cells (.list [.int .u8 0, .int .u8 0, .int .u8 0, .int .u8 0, .int .u8 0, .int .u8 0, .int .u8 0, .int .u8 0, .int .u8 0, .int .u8 0, .int .u8 0, .int .u8 0, .int .u8 0, .int .u8 0, .int .u8 0, .int .u8 0, .int .u8 0, .int .u8 0, .int .u8 0, .int .u8 0, .int .u8 0, .int .u8 0, .int .u8 0, .int .u8 0, .int .u8 0, .int .u8 0, .int .u8 0, .int .u8 0, .int .u8 0, .int .u8 0, .int .u8 0, .int .u8 0, .int .u8 0, .int .u8 0, .int .u8 0, .int .u8 0, .int .u8 0, .int .u8 0, .int .u8 0, .int .u8 0, .int .u8 0, .int .u8 0, .int .u8 0, .int .u8 0, .int .u8 0, .int .u8 0, .int .u8 0, .int .u8 0, .int .u8 0, .int .u8 0, .int .u8 0, .int .u8 0, .int .u8 0, .int .u8 0, .int .u8 0, .int .u8 0, .int .u8 0, .int .u8 0, .int .u8 0, .int .u8 0, .int .u8 0, .int .u8 0, .int .u8 0, .int .u8 0]) false)).upd (s.next + 1) (.cells (.list (cut 0 8 H)) false)).upd (s.next + 2) (.cells (.list [.int .u8 0, .int .u8 0, .int .u8 0, .int .u8 0, .int .u8 0, .int .u8 0, .int .u8 0, .int .u8 0, .int .u8 0, .int .u8 0, .int .u8 0, .int .u8 0, .int .u8 0, .int .u8 0, .int .u8 0, .int .u8 0, .int .u8 0, .int .u8 0, .int .u8 0, .int .u8 0, .int .u8 0, .int .u8 0, .int .u8 0, .int .u8 0, .int .u8 0, .int .u8 0, .int .u8 0, .int .u8 0, .int .u8 0, .int .u8 0, .int .u8 0, .int .u8 0, .int .u8 0, .int .u8 0, .int .u8 0, .int .u8 0, .int .u8 0, .int .u8 0, .int .u8 0, .int .u8 0, .int .u8 0, .int .u8 0, .int .u8 0, .int .u8 0, .int .u8 0, .int .u8 0, .int .u8 0, .int .u8 0, .int .u8 0, .int .u8 0, .int .u8 0, .int .u8 0, .int .u8 0, .int .u8 0, .int .u8 0, .int .u8 0, .int .u8 0, .int .u8 0, .int .u8 0, .int .u8 0, .int .u8 0, .int .u8 0, .int .u8 0, .int .u8 0]) false) := ⟨_, rfl⟩
 rw [← hS5]
 rw [show ([.int .u8 0, .int .u8 0, .int .u8 0, .int .u8 0, .int .u8 0, .int .u8 0, .int .u8 0, .int .u8 0, .int .u8 0, .int .u8 0, .int .u8 0, .int .u8 0, .int .u8 0, .int .u8 0, .int .u8 0, .int .u8 0, .int .u8 0, .int .u8 0, .int .u8 0, .int .u8 0, .int .u8 0, .int .u8 0, .int .u8 0, .int .u8 0, .int .u8 0, .int .u8 0, .int .u8 0, .int .u8 0, .int .u8 0, .int .u8 0, .int .u8 0, .int .u8 0, .int .u8 0, .int .u8 0, .int .u8 0, .int .u8 0, .int .u8 0, .int .u8 0, .int .u8 0, .int .u8 0, .int .u8 0, .int .u8 0, .int .u8 0, .int .u8 0, .int .u8 0, .int .u8 0, .int .u8 0, .int .u8 0, .int .u8 0, .int .u8 0, .int .u8 0, .int .u8 0, .int .u8 0, .int .u8 0, .int .u8 0, .int .u8 0, .int .u8 0, .int .u8 0, .int .u8 0, .int .u8 0, .int .u8 0, .int .u8 0, .int .u8 0, .int .u8 0] : List Value) = zq .u8 64 from rfl, show ([.int .u8 0, .int .u8 0, .int .u8 0, .int .u8 0, .int .u8 0, .int .u8 0, .int .u8 0, .int .u8 0, .int .u8 0, .int .u8 0, .int .u8 0, .int .u8 0, .int .u8 0, .int .u8 0, .int .u8 0, .int .u8 0, .int .u8 0, .int .u8 0, .int .u8 0, .int .u8 0, .int .u8 0, .int .u8 0, .int .u8 0, .int .u8 0, .int .u8 0, .int .u8 0, .int .u8 0, .int .u8 0, .int .u8 0, .int .u8 0, .int .u8 0, .int .u8 0] : List Value) = zq .u8 32 from rfl, show ([.int .u32 0, .int .u32 0, .int .u32 0, .int .u32 0, .int .u32 0, .int .u32 0, .int .u32 0, .int .u32 0] : List Value) = zq .u32 8 from rfl] at hS5
 have hn := hH.hn
 have hle := hH.le
 have X5 : Ext [] s S5 := by
  rw [hS5]
  exact (((((Ext.new (F := [])).trans' Ext.new).trans' Ext.new).trans (Ext.upd (F := [s.next + 1]) (.inl (by simp))) (by simp)).trans (Ext.upd (F := [s.next + 2]) (.inl (by simp))) (by simp))
 have hG5 := X5.good hG
 have nS : S5.next = s.next + 3 := by rw [hS5]; simp (maxDischargeDepth := 8) only [sA, Nat.reduceAdd, Nat.add_assoc]
 have gD5 : S5.get s.next = some (.cells (.list (zq .u8 32)) false) := by rw [hS5]; simp (maxDischargeDepth := 8) only [sA, sM, Nat.reduceAdd, hG]
 have gX5 : S5.get (s.next + 1) = some (.cells (.list (cut 0 8 H)) false) := by rw [hS5]; simp (maxDischargeDepth := 8) only [sA, sM, Nat.reduceAdd, hG]
 have gB5 : S5.get (s.next + 2) = some (.cells (.list (zq .u8 64)) false) := by rw [hS5]; simp (maxDischargeDepth := 8) only [sA, sM, Nat.reduceAdd, hG]
 have gp5 := X5.keep gp (by simp)
 have wD5 : S5.wr s.next = true := X5.wrs (hG _ (Nat.le_refl _)).2
 have wX5 : S5.wr (s.next + 1) = true := X5.wrs (hG _ (by omega)).2
 have wB5 : S5.wr (s.next + 2) = true := X5.wrs (hG _ (by omega)).2
 obtain ⟨D, hD⟩ : ∃ D, D = s.next := ⟨_, rfl⟩
 simp only [← hD] at nS gD5 gX5 gB5 wD5 wX5 wB5 hpl ⊢
 clear hS5
 have hbd : Zy 64 64 none (some (.int .i64 (n : Int))) none = some (0, n, 64) := by
  unfold Zy
  simp only [Zz, Nat.ble_eq.mpr hle, if_true]
 simp only [sA, zb, Nat.reduceEqDiff, Cells.get, reduceCtorEq, JQ, hbd, ZU, Du, gp5, hn]
 refine W.mono (VA gB5 wB5 (by rw [(Zi .u8 64).1]; decide) (Tj gp5 (by rw [hH.len]; omega)) (hH.hb.sub hle).cut.one) ?_
 rintro ⟨v6, s6⟩ ⟨h6, X6, g6⟩
 simp only at h6 X6 g6
 subst h6
 have gp6 := X6.keep gp5 (by simp; omega)
 have gX6 := X6.keep gX5 (by simp)
 have wX6 := X6.wrs wX5
 have ha73 := hH.ha
 simp only [sA, zb, zl, zm, Nat.reduceEqDiff, Cells.get, reduceCtorEq, gp6, hn, ha73]
 have g6' : s6.get (D + 2) = some (.cells (.list (TP H n)) false) := g6
 have hBU := HH hH.hb hle
 have hXU := hH.hw.cut
 have hG6 := X6.good hG5
 have gD6 := X6.keep gD5 (by simp)
 refine W.mono (TX hB hG6 gX6 wX6 g6' (hXU.part (Nat.le_refl _)) (hBU.part (Nat.le_refl _))) ?_
 rintro ⟨v7, s7⟩ ⟨h7, X7, g7⟩
 simp only at h7 X7 g7
 subst h7
 have hG7 := X7.good hG6
 have hcnt := hH.cnt
 obtain ⟨w, hw⟩ : ∃ w, w = Yj (cut 0 8 H) (TP H n) 0 (zf .u64 (nAt H 73 + zf .u64 (n : Int))) true := ⟨_, rfl⟩
 have hdig : Dn H = W0 w 8 := by unfold Dn; rw [hcnt, hw]
 have hwU : UA .u32 0 8 w := by rw [hw]; exact Vm (hXU.part (Nat.le_refl _))
 have hwl : w.length = 8 := by rw [hw, QG]; exact hXU.1
 have hwW : U .u32 8 w := hwU.all hwl
 rw [← hw] at g7
 have hld7 : ∀ z, ldA 8 (.pointer (some ⟨D + 1, 0, none⟩)) (s7.new z) = some (.agg ⟨w⟩) := fun z => by
  have := DS.get_lt' g7
  unfold ldA DS.read
  simp only [DS.new_get_lt this, g7]
  rw [zQ _ _ _ (by rw [hwl]; decide)]
  simp only [List.drop_zero]
  rw [List.take_of_length_le (by rw [hwl]; exact Nat.le_refl _)]
 simp (maxDischargeDepth := 8) only [sA, sM, Nat.reduceLT, hld7, hG7]
 obtain ⟨S8, hS8⟩ : ∃ S8 : DS, S8 = s7.new (.cells (.list [.int .u8 0, .int .u8 0, .int .u8 0, .int .u8 0, .int .u8 0, .int .u8 0, .int .u8 0, .int .u8 0, .int .u8 0, .int .u8 0, .int .u8 0, .int .u8 0, .int .u8 0, .int .u8 0, .int .u8 0, .int .u8 0, .int .u8 0, .int .u8 0, .int .u8 0, .int .u8 0, .int .u8 0, .int .u8 0, .int .u8 0, .int .u8 0, .int .u8 0, .int .u8 0, .int .u8 0, .int .u8 0, .int .u8 0, .int .u8 0, .int .u8 0, .int .u8 0]) false) := ⟨_, rfl⟩
 rw [← hS8]
 rw [show ([.int .u8 0, .int .u8 0, .int .u8 0, .int .u8 0, .int .u8 0, .int .u8 0, .int .u8 0, .int .u8 0, .int .u8 0, .int .u8 0, .int .u8 0, .int .u8 0, .int .u8 0, .int .u8 0, .int .u8 0, .int .u8 0, .int .u8 0, .int .u8 0, .int .u8 0, .int .u8 0, .int .u8 0, .int .u8 0, .int .u8 0, .int .u8 0, .int .u8 0, .int .u8 0, .int .u8 0, .int .u8 0, .int .u8 0, .int .u8 0, .int .u8 0, .int .u8 0] : List Value) = zq .u8 32 from rfl] at hS8
 have X8 : Ext [] s7 S8 := by rw [hS8]; exact Ext.new
 have gO8 : S8.get s7.next = some (.cells (.list (zq .u8 32)) false) := by rw [hS8]; simp (maxDischargeDepth := 8) only [zR, hG7]
 have wO8 : S8.wr s7.next = true := X8.wrs (hG7 _ (Nat.le_refl _)).2
 have n7 : D + 3 ≤ s7.next := by have := X7.le; have := X6.le; omega
 have gD8 := X8.keep (X7.keep gD6 (by simp)) (by simp)
 have wD8 := X8.wrs (X7.wrs (X6.wrs wD5))
 clear hS8
 refine zY (OI S8 s7.next D w) 8 (by omega) ⟨0, rfl, by omega, rfl, ?_, .refl, gO8⟩ ?_
 · simp only [sA, Nat.reduceEqDiff]
   rfl
 rintro m ⟨tt, s9, ds⟩ hm ⟨j, rfl, hj, hds, ⟨g2, g5, g38, g39⟩, X9, g9⟩
 simp only at hds g2 g5 g38 g39 X9 g9
 subst hds
 have w9 := X9.wrs wO8
 by_cases c1 : j < 8
 · have e1 : (j : Int) < 8 := by omega
   have w1 : zf .i64 ((j : Int) + 1) = ((j + 1 : Nat) : Int) := by rw [zi (by omega) (by omega)]; omega
   have w4 : zf .i64 (4 * (j : Int)) = ((4 * j : Nat) : Int) := by rw [zi (by omega) (by omega)]; omega
   have wa : zf .i64 (((4 * j : Nat) : Int) + 1) = ((4 * j + 1 : Nat) : Int) := by rw [zi (by omega) (by omega)]; omega
   have wb : zf .i64 (((4 * j : Nat) : Int) + 2) = ((4 * j + 2 : Nat) : Int) := by rw [zi (by omega) (by omega)]; omega
   have wc : zf .i64 (((4 * j : Nat) : Int) + 3) = ((4 * j + 3 : Nat) : Int) := by rw [zi (by omega) (by omega)]; omega
   have hwj := hwW.at c1
   have l0 : 4 * j < 32 := by omega
   have l1 : 4 * j + 1 < 32 := by omega
   have l2 : 4 * j + 2 < 32 := by omega
   have l3 : 4 * j + 3 < 32 := by omega
   have k0 : 4 * j ≤ 31 := by omega
   have k1 : 4 * j ≤ 30 := by omega
   have k2 : 4 * j ≤ 29 := by omega
   have k3 : 4 * j ≤ 28 := by omega
   have hpo : partOf none w j = some (.int .u32 (nAt w j)) := by unfold partOf; exact hwj
   simp only [sA, zb, zl, zm, Nat.reduceEqDiff, allOne, ze, Nat.reduceLeDiff, DS.wrC, Cells.size, Cells.fillFrom, Cells.set, g2, g5, g38, g39, e1, w1, w4, wa, wb, wc, hwj, hwl, c1, Hl, LL, LK, l0, l1, l2, l3, g9, w9, zI, (Fr w j).1, hpo, k0, k1, k2, k3]
   refine ⟨8 - (j + 1), by omega, ⟨j + 1, rfl, by omega, rfl, by simp only [sA, Nat.reduceEqDiff, g2, g5, g38, g39], X9.trans' ((((Ext.upd (.inl (by simp))).trans' (Ext.upd (.inl (by simp)))).trans' (Ext.upd (.inl (by simp)))).trans' (Ext.upd (.inl (by simp)))), ?_⟩⟩
   simp only [sA, g9]
   rfl
 · obtain rfl : j = 8 := by omega
   have e1 : ¬ ((8 : Nat) : Int) < 8 := by omega
   have hO := Fr w 8
   have gD9 := X9.keep gD8 (by simp; omega)
   have wD9 := X9.wrs wD8
   have hld9 : ldA 32 (.pointer (some ⟨s7.next, 0, none⟩)) s9 = some (.agg ⟨W0 w 8⟩) := by
    unfold ldA DS.read
    simp only [g9]
    rw [zQ _ _ _ (by rw [hO.1]; decide)]
    simp only [List.drop_zero]
    rw [List.take_of_length_le (by rw [hO.1]; exact Nat.le_refl _)]
   have hfill9 : (Cells.list (zq .u8 32)).fillFrom 0 (W0 w 8) = .list (W0 w 8) := by
    rw [ZC _ _ _ (by rw [hO.1]; decide), hO.1]
    simp [zq]
   have hrd : (s9.upd D (.cells (.list (W0 w 8)) false)).read D 0 32 = some (W0 w 8) := by
    unfold DS.read
    simp only [DS.upd_get_self, gD9, Option.map_some]
    rw [zQ _ _ _ (by rw [hO.1]; decide)]
    simp only [List.drop_zero]
    rw [List.take_of_length_le (by rw [hO.1]; exact Nat.le_refl _)]
   simp (maxDischargeDepth := 8) only [sA, zl, zm, zo, za, zd, DS.wrC, Cells.size, WF, Nat.reduceLT, g2, g5, g38, g39, e1, hld9, gD9, wD9, hO.1, hO.allOne, hfill9, (Zi .u8 32).1, hrd]
   refine hQ _ ⟨by rw [hdig], ?_⟩
   have a1 : Ext [] s s6 := X5.trans X6 (by simp; omega)
   have a2 : Ext [] s s7 := a1.trans X7 (by simp; omega)
   have a3 : Ext [] s s9 := (a2.trans' X8).trans X9 (by simp; omega)
   exact a3.trans (Ext.upd (F := [D]) (.inl (by simp))) (by simp; omega)
theorem H5 {b : Nat} {ps : List (Value × List Int)} (hG : s.Good) (gb : s.get b = some (.cells (.list (ps.map Prod.fst)) false)) (hps : ∀ q, q ∈ ps → SlR s q.1 q.2) (hl : ps.length < E.lf) (h63 : ps.length ≤ 1000000) (hlr : ∀ q, q ∈ ps → q.2.length < E.lf) :
 W (dcall E (d + 5) (.func (.func 40) #[] #[]) [.slice (some ⟨b, 0, none⟩) ps.length ps.length] s) fun r => r.1 = .agg ⟨QN (ps.map Prod.snd)⟩ ∧ Ext [] s r.2 := by
 refine zr fun Q hQ => ?_
 rw [zh hB.isum hB.fsum rfl]
 have hbl := DS.get_lt' gb
 simp (maxDischargeDepth := 8) only [sA, pp, pv, d40, hG]
 obtain ⟨S1, hS1⟩ : ∃ S1 : DS, S1 = s.new (.cells (.list [.int .u8 0, .int .u8 0, .int .u8 0, .int .u8 0, .int .u8 0, .int .u8 0, .int .u8 0, .int .u8 0, .int .u8 0, .int .u8 0, .int .u8 0, .int .u8 0, .int .u8 0, .int .u8 0, .int .u8 0, .int .u8 0, .int .u8 0, .int .u8 0, .int .u8 0, .int .u8 0, .int .u8 0, .int .u8 0, .int .u8 0, .int .u8 0, .int .u8 0, .int .u8 0, .int .u8 0, .int .u8 0, .int .u8 0, .int .u8 0, .int .u8 0, .int .u8 0]) false) := ⟨_, rfl⟩
 rw [← hS1]
 rw [show ([.int .u8 0, .int .u8 0, .int .u8 0, .int .u8 0, .int .u8 0, .int .u8 0, .int .u8 0, .int .u8 0, .int .u8 0, .int .u8 0, .int .u8 0, .int .u8 0, .int .u8 0, .int .u8 0, .int .u8 0, .int .u8 0, .int .u8 0, .int .u8 0, .int .u8 0, .int .u8 0, .int .u8 0, .int .u8 0, .int .u8 0, .int .u8 0, .int .u8 0, .int .u8 0, .int .u8 0, .int .u8 0, .int .u8 0, .int .u8 0, .int .u8 0, .int .u8 0] : List Value) = zq .u8 32 from rfl] at hS1
 have X1 : Ext [] s S1 := by rw [hS1]; exact Ext.new
 have hG1 := X1.good hG
 have gD1 : S1.get s.next = some (.cells (.list (zq .u8 32)) false) := by rw [hS1]; simp (maxDischargeDepth := 8) only [zR, hG]
 have wD1 : S1.wr s.next = true := X1.wrs (hG _ (Nat.le_refl _)).2
 have n1 : S1.next = s.next + 1 := by rw [hS1]; rfl
 obtain ⟨D, hD⟩ : ∃ D, D = s.next := ⟨_, rfl⟩
 simp only [← hD] at gD1 wD1 n1 hbl ⊢
 clear hS1
 refine W.mono (LU hB hG1) ?_
 rintro ⟨v2, s2⟩ ⟨p, hv2, hp, X2, g2, w2⟩
 simp only at hv2 X2 g2 w2
 subst hv2
 have XA : Ext [] s s2 := X1.trans' X2
 have hG2 := X2.good hG1
 have gb2 := XA.keep gb (by simp)
 have gD2 := X2.keep gD1 (by simp)
 have wD2 := X2.wrs wD1
 simp only [sA, zb, reduceCtorEq]
 refine zY (SI s2 p D b ps) ps.length hl ⟨0, rfl, Nat.zero_le _, rfl, ?_, .refl, g2, 0, Lh⟩ ?_
 · simp only [sA, Nat.reduceEqDiff, reduceCtorEq]
   rfl
 rintro m ⟨tt, s3, ds⟩ hm ⟨j, rfl, hj, hds, ⟨g0, g2', g3, g7, g8, g9⟩, X3, gp3, n3, hH3⟩
 simp only at hds g0 g2' g3 g7 g8 g9 X3 gp3
 subst hds
 have hG3 := X3.good hG2
 by_cases c1 : j < ps.length
 · have e1 : (j : Int) < (ps.length : Int) := by omega
   have w1 : zf .i64 ((j : Int) + 1) = ((j + 1 : Nat) : Int) := by
    have := hG2
    exact zi (by omega) (by omega)
   have gb3 := X3.keep gb2 (by simp; omega)
   have hgj : getN (ps.map Prod.fst) j = some (ps[j]).1 := by rw [zw, List.getElem?_map, List.getElem?_eq_getElem c1]; rfl
   simp only [sA, zb, zl, zm, Nat.reduceEqDiff, Cells.get, g0, g2', g3, g7, g8, g9, e1, w1, gb3, hgj, c1]
   have hmem : ps[j] ∈ ps := List.getElem_mem c1
   have hr := hps _ hmem
   have hr3 := (hr.keep XA (by simp)).keep X3 (fun k hk => by have := hr.lt k hk; have := XA.le; have := X1.le; simp; omega)
   have hpb : p ∉ blk ps[j].1 := fun hk => by have := hr.lt p hk; have := X1.le; omega
   refine W.mono (Hb hB hG3 gp3 (X3.wrs w2) hH3 hr3 hpb (Nat.le_refl _) (hlr _ hmem)) ?_
   rintro ⟨v4, s4⟩ ⟨X4, g4, hH4⟩
   simp only at X4 g4
   have hsn : (ps.map Prod.snd).take (j + 1) = (ps.map Prod.snd).take j ++ [ps[j].2] := by
    rw [List.take_add_one, List.getElem?_map, List.getElem?_eq_getElem c1]; rfl
   simp only [sA, zl, zm, Nat.reduceEqDiff, g0, g2', g3, g7, g8, g9, w1]
   refine ⟨ps.length - (j + 1), by omega, ⟨j + 1, rfl, by omega, rfl, by simp only [sA, Nat.reduceEqDiff, reduceCtorEq, g0, g2', g3, g7, g8, g9], X3.trans' X4, ?_, ?_⟩⟩
   · rw [hsn, FQ]; exact g4
   · rw [hsn, FQ]; exact hH4
 · obtain rfl : j = ps.length := by omega
   have e1 : ¬ ((ps.length : Nat) : Int) < ((ps.length : Nat) : Int) := by omega
   simp only [sA, zl, zm, Nat.reduceEqDiff, g0, g2', g3, g7, g8, g9, e1]
   refine W.mono (L7 hB hG3 gp3 hH3) ?_
   rintro ⟨v5, s5⟩ ⟨hv5, X5⟩
   simp only at hv5 X5
   subst hv5
   have htk : (ps.map Prod.snd).take ps.length = ps.map Prod.snd := List.take_of_length_le (by rw [List.length_map]; exact Nat.le_refl _)
   rw [htk]
   have hO := Gx (C7 (ps.map Prod.snd))
   have gD5 := X5.keep (X3.keep gD2 (by simp; omega)) (by simp)
   have wD5 := X5.wrs (X3.wrs wD2)
   obtain ⟨o, ho⟩ : ∃ o, o = Dn (C7 (ps.map Prod.snd)) := ⟨_, rfl⟩
   rw [← ho] at hO ⊢
   have hfill9 : (Cells.list (zq .u8 32)).fillFrom 0 o = .list o := by
    rw [ZC _ _ _ (by rw [hO.1]; decide), hO.1]
    simp [zq]
   have hrd : (s5.upd D (.cells (.list o) false)).read D 0 32 = some o := by
    unfold DS.read
    simp only [DS.upd_get_self, gD5, Option.map_some]
    rw [zQ _ _ _ (by rw [hO.1]; decide)]
    simp only [List.drop_zero]
    rw [List.take_of_length_le (by rw [hO.1]; exact Nat.le_refl _)]
   simp (maxDischargeDepth := 8) only [sA, zo, za, zd, DS.wrC, Cells.size, WF, Nat.reduceLT, g0, g2', g3, gD5, wD5, hO.1, hO.allOne, hfill9, (Zi .u8 32).1, hrd]
   refine hQ _ ⟨by rw [ho]; rfl, ?_⟩
   exact ((XA.trans X3 (by have := X1.le; simp; omega)).trans' X5).trans (Ext.upd (F := [D]) (.inl (by simp))) (by simp; omega)
end
end Go.Dx.RpA
