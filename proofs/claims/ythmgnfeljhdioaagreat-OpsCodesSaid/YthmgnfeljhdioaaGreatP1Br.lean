/- A part. -/
import Derived.Test.YthmgnfeljhdioaaGreatP1Bq
import Derived.Test.YthmgnfeljhdioaaGreatP1Dp
set_option linter.unusedVariables false
set_option linter.unusedSimpArgs false
set_option linter.unusedSectionVars false
set_option maxRecDepth 100000
set_option maxHeartbeats 4000000
namespace Go.Dx.TbA
open Go Go.Dx Go.Dx.Tab Go.Proofs.YthmgnfeljhdioaaGreat
structure PL (E : Env) : Prop where
 fqform : E.fn 26 = some d26
 iqform : E.intr 26 = none
 fqFirst : E.fn 64 = some d64
 iqFirst : E.intr 64 = none
 fqDec : E.fn 32 = some d32
 iqDec : E.intr 32 = none
 fqDecode : E.fn 12 = some d12
 iqDecode : E.intr 12 = none
 fmanyI : E.fn 59 = some d59
 imanyI : E.intr 59 = none
 fmanyI2 : E.fn 95 = some d95
 imanyI2 : E.intr 95 = none
 fbLI : E.fn 58 = some d58
 ibLI : E.intr 58 = none
 fbLI2 : E.fn 93 = some d93
 ibLI2 : E.intr 93 = none
 fbBP : E.fn 56 = some d56
 ibBP : E.intr 56 = none
 fbBP2 : E.fn 86 = some d86
 ibBP2 : E.intr 86 = none
 fbQ : E.fn 52 = some d52
 ibQ : E.intr 52 = none
 fbQ2 : E.fn 81 = some d81
 ibQ2 : E.intr 81 = none
 fblob : E.fn 57 = some d57
 iblob : E.intr 57 = none
 fblob2 : E.fn 89 = some d89
 iblob2 : E.intr 89 = none
 fcloneB : E.fn 90 = some d90
 icloneB : E.intr 90 = none
 lf : 10000 ≤ E.lf
abbrev Yn := (Int × Int) × (List Int × (List Int × Int))
def RL : Nat → DS → Value → Yn → Prop := ZW (ZW ZY ZY) C4
def rdQ : RS → Yn × RS := rdP (rdP (rdN 1 255) (rdN 8 0)) (rdP rdB (rdP (rdL (rdN 8 0)) (rdN 8 0)))
theorem P4 : XQ (rdP (rdL (rdN 8 0)) (rdN 8 0)) := YH (Rm (zT _ _)) (zT _ _)
theorem Rj : XQ rdQ := YH (YH (zT _ _) (zT _ _)) (YH Ro P4)
structure Yu (n : Nat) (s : DS) (cells : List Value) (x : Yn) : Prop where
 ex : ∃ b1 c1 b2 c2, cells = [.int .i64 x.1.1, .int .i64 x.1.2, .slice b1 x.2.1.length c1, .slice b2 x.2.2.1.length c2, .int .i64 x.2.2.2] ∧ FC n s (.slice b1 x.2.1.length c1) x.2.1 ∧ FB n s (.slice b2 x.2.2.1.length c2) x.2.2.1
theorem Yu.stab {n : Nat} {s s' : DS} {v : List Value} {x : Yn} {F : List Nat} (h : Yu n s v x) (e : Ext F s s') (hF : ∀ k, k ∈ F → k < n) : Yu n s' v x := by
 obtain ⟨b1, c1, b2, c2, h0, h1, h2⟩ := h
 exact ⟨b1, c1, b2, c2, h0, J4.stab _ _ _ _ _ _ h1 e hF, QW.stab _ _ _ _ _ _ h2 e hF⟩
theorem Yu.mono {n n' : Nat} {s : DS} {v : List Value} {x : Yn} (h : Yu n s v x) (hn : n' ≤ n) : Yu n' s v x := by
 obtain ⟨b1, c1, b2, c2, h0, h1, h2⟩ := h
 exact ⟨b1, c1, b2, c2, h0, J4.mono _ _ _ _ _ h1 hn, QW.mono _ _ _ _ _ h2 hn⟩
theorem shQ (o : Nat) (s : DS) (v : Value) (x : Yn) (h : RL o s v x) : ∃ cs, v = .agg ⟨cs⟩ ∧ Yu o s cs x := by
 obtain ⟨a, b, e, h1, p, q, e2, h2, u, w, e3, h3, h4⟩ := h
 have h1 := TK _ _ _ _ h1
 have h4 : w = _ := h4
 obtain ⟨a1, c1, hm⟩ := h2.1.len
 obtain ⟨a2, c2, ha⟩ := h3.1.shape
 subst h1 h4 hm ha e3 e2
 exact ⟨_, e, _, _, _, _, rfl, h2, h3⟩
def XT (x : Yn) : Prop := Who x.1.1 x.1.2 ∧ (x.2.1.length : Int) ≤ 16384 ∧ (x.2.2.1.length : Int) ≤ 8 ∧ 0 ≤ x.2.2.2 ∧ x.2.2.2 ≤ 1048576
instance (x : Yn) : Decidable (XT x) := by unfold XT; infer_instance
section
variable {E : Env} (hT : GD E) {s : DS} {d : Nat}
include hT
theorem Gb (hG : s.Good) (x : Yn) (b1 b2 : Option Addr) (c1 c2 : Nat) : W (dcall E (d + 3) (.func (.func 9) #[] #[]) [.agg ⟨[.int .i64 x.1.1, .int .i64 x.1.2, .slice b1 x.2.1.length c1, .slice b2 x.2.2.1.length c2, .int .i64 x.2.2.2]⟩] s) fun r => r.1 = .bool (decide (XT x)) ∧ Ext [] s r.2 := by
 refine zp fun Q hQ => ?_
 rw [zj hT.ioMay hT.foMay rfl]
 have h1 := fun S => Sv hT (d := d) (s := S) x.1.1 x.1.2
 have h2 := fun S => XV hT (d := d + 1) (s := S) x.2.2.2 0 1048576
 unfold XT at hQ
 by_cases w1 : Who x.1.1 x.1.2
 · simp only [decide_eq_true w1] at h1
   by_cases w2 : (x.2.1.length : Int) ≤ 16384
   · by_cases w3 : (x.2.2.1.length : Int) ≤ 8
     · simp (maxDischargeDepth := 8) only [sA, sM, zb, zo, zm, za, ze, Cells.get, getN, pp, pv, pg, Nat.reduceLT, d9, hG, h1, h2, w2, w3]
       exact hQ _ ⟨by simp [w1, w2, w3], Ext.new⟩
     · simp (maxDischargeDepth := 8) only [sA, sM, zb, zo, zm, za, ze, Cells.get, getN, pp, pv, pg, Nat.reduceLT, d9, hG, h1, h2, w2, w3]
       exact hQ _ ⟨by simp [w1, w2, w3], Ext.new⟩
   · simp (maxDischargeDepth := 8) only [sA, sM, zb, zo, zm, za, ze, Cells.get, getN, pp, pv, pg, Nat.reduceLT, d9, hG, h1, h2, w2]
     exact hQ _ ⟨by simp [w1, w2], Ext.new⟩
 · simp only [decide_eq_false w1] at h1
   simp (maxDischargeDepth := 8) only [sA, sM, zb, za, ze, Cells.get, getN, pp, pv, pg, Nat.reduceLT, d9, hG, h1, h2]
   exact hQ _ ⟨by simp [w1], Ext.new⟩
end
section
variable {E : Env} (hC : Ja E) (hG' : GF E) (hR : VX E) (hQf : PL E) {s : DS} {d : Nat}
include hC hG' hR hQf
theorem RW (hG : s.Good) : W (dcall E (d + 3) (.func (.func 26) #[] #[]) [] s) fun r => zD E 7 s.next r.2 r.1 RL rdQ ∧ Ext [] s r.2 := by
 refine zp fun Q hQ => ?_
 rw [zj hQf.iqform hQf.fqform rfl]
 simp (maxDischargeDepth := 8) only [sA, pp, d26, hG]
 have h0 : ∀ o, (s.new o).get s.next = some o := fun o => DS.new_get_self hG
 have w0 : (s.new (.cells (.list [.nilFunc, .nilFunc]) false)).wr s.next = true := (hG _ (Nat.le_refl _)).2
 have l0 : s.next + 1 ≤ (s.new (.cells (.list [.nilFunc, .nilFunc]) false)).next := Nat.le_refl _
 have hG0 := DS.new_good (o := .cells (.list [.nilFunc, .nilFunc]) false) hG
 refine W.mono (Wn hG' hC (m := s.next + 1) hG0 l0 hR.fbyte hR.ibyte) ?_
 rintro ⟨v1, s1⟩ ⟨q1, X1⟩
 simp only at q1 X1
 have hG1 := X1.good hG0
 have l1 := Nat.le_trans l0 X1.le
 simp only [sA]
 refine W.mono (Ya hG' hC (m := s.next + 1) hG1 l1 hR.fint hR.iint) ?_
 rintro ⟨v2, s2⟩ ⟨q2, X2⟩
 simp only at q2 X2
 have hG2 := X2.good hG1
 have l2 := Nat.le_trans l1 X2.le
 simp only [sA, Nat.reduceEqDiff]
 refine W.mono (XO hG' hC l2 hG2 (q1.keep X2) q2 hR.fbII hR.ibII fun ha hb => QE ha hb zN zN (zT _ _) (fun _ _ _ x h => ⟨x, h⟩) (fun _ _ _ x h => ⟨x, h⟩) hR.fbII2 hR.ibII2) ?_
 rintro ⟨v3, s3⟩ ⟨q3, X3⟩
 simp only at q3 X3
 have hG3 := X3.good hG2
 have l3 := Nat.le_trans l2 X3.le
 simp only [sA]
 refine W.mono (De hG' hC hG3 l3 hQf.fblob hQf.iblob hQf.fblob2 hQf.iblob2 hQf.fcloneB hQf.icloneB) ?_
 rintro ⟨v4, s4⟩ ⟨q4, X4⟩
 simp only at q4 X4
 have hG4 := X4.good hG3
 have l4 := Nat.le_trans l3 X4.le
 simp only [sA]
 refine W.mono (Ya hG' hC (m := s.next + 1) hG4 l4 hR.fint hR.iint) ?_
 rintro ⟨v5, s5⟩ ⟨q5, X5⟩
 simp only at q5 X5
 have hG5 := X5.good hG4
 have l5 := Nat.le_trans l4 X5.le
 simp only [sA]
 refine W.mono (Vc hG' hC l5 hG5 q5 (Nat.le_refl _) (zT _ _) (fun _ _ _ _ h => h) hQf.fmanyI hQf.imanyI hQf.fmanyI2 hQf.imanyI2) ?_
 rintro ⟨v6, s6⟩ ⟨q6, X6⟩
 simp only at q6 X6
 have hG6 := X6.good hG5
 have l6 := Nat.le_trans l5 X6.le
 simp only [sA]
 refine W.mono (Ya hG' hC (m := s.next + 1) hG6 l6 hR.fint hR.iint) ?_
 rintro ⟨v7, s7⟩ ⟨q7, X7⟩
 simp only at q7 X7
 have hG7 := X7.good hG6
 have l7 := Nat.le_trans l6 X7.le
 simp only [sA, Nat.reduceEqDiff]
 refine W.mono (Vh hG' hC l7 hG7 (q6.keep X7) (q7.mono (show 3 ≤ 4 by omega)) hQf.fbLI hQf.ibLI fun ha hb => Ck ha hb QW zN (Rm (zT _ _)) C1 (fun _ _ _ x h => ⟨x, h⟩) hQf.fbLI2 hQf.ibLI2) ?_
 rintro ⟨v8, s8⟩ ⟨q8, X8⟩
 simp only at q8 X8
 have hG8 := X8.good hG7
 have l8 := Nat.le_trans l7 X8.le
 simp only [sA, Nat.reduceEqDiff]
 refine W.mono (Vi hG' hC l8 hG8 ((q4.keep (X5.trans' (X6.trans' (X7.trans' X8)))).mono (show 4 ≤ 5 by omega)) q8 hQf.fbBP hQf.ibBP fun ha hb => Cm ha hb J4 (YR QW zN) Ro C3 FA hQf.fbBP2 hQf.ibBP2) ?_
 rintro ⟨v9, s9⟩ ⟨q9, X9⟩
 simp only at q9 X9
 have hG9 := X9.good hG8
 have l9 := Nat.le_trans l8 X9.le
 simp only [sA, Nat.reduceEqDiff]
 have X39 := X4.trans' (X5.trans' (X6.trans' (X7.trans' (X8.trans' X9))))
 refine W.mono (Vj hG' hC l9 hG9 ((q3.keep X39).mono (show 4 ≤ 6 by omega)) q9 hQf.fbQ hQf.ibQ fun ha hb => Co ha hb (YR zN zN) (YR J4 (YR QW zN)) (YH (zT _ _) (zT _ _)) (fun _ _ _ x h => ⟨_, _, TK _ _ _ _ h⟩) RN RO hR.fr hQf.fbQ2 hQf.ibQ2) ?_
 rintro ⟨vb, sb⟩ ⟨qb, Xb⟩
 simp only at qb Xb
 have X0b := (X1.trans' (X2.trans' X3)).trans' (X39.trans' Xb)
 have g6 := X0b.keep (h0 _) (by simp)
 have w6 := X0b.wrs w0
 obtain ⟨f, a, b, g, a', b', D, rfl, k2, k3, k4⟩ := qb
 simp (maxDischargeDepth := 8) only [sA, sM, zk, za, ze, Cells.get, getN, Nat.reduceAdd, zh, zg, DS.wrC, Cells.size, Cells.fillFrom, Cells.set, zA, DS.read, Cells.take, g6, w6]
 have XF : ∀ o, Ext [] s (sb.upd s.next o) := fun o => (Ext.new.trans' X0b).trans (Ext.upd (F := [s.next]) (.inl (by simp))) (by simp)
 refine hQ _ ⟨⟨f, a, b, g, a', b', D, rfl, fun p hp => ?_, fun p hp => ?_, k4⟩, XF _⟩
 · have := (k3 p hp).1
   simp (maxDischargeDepth := 8) only [sA, k2 p hp, show ¬ p.1 = s.next by omega]
 · have := k3 p hp
   simp (maxDischargeDepth := 8) only [DS.upd_next]
   omega
end
section
variable {E : Env} (hQf : PL E) {s : DS} {d : Nat} {bv : Value} {bs : List Int}
include hQf
def Fk (bs : List Int) : Int := (bs.length : Int) - ((rdQ (bs, false)).2.1.length : Int)
theorem Sj {m : Nat} {fv : Value} (hf : zD E 7 m s fv RL rdQ) (hv : SlR s bv bs) (hB : IsB bs) (hl : bs.length ≤ 1048576) (hG : s.Good) :
 W (dcall E (d + 8) (.func (.func 64) #[] #[]) [fv, bv] s) fun p => Ext [] s p.2 ∧ if (rdQ (bs, false)).2.2 = true then p.1 = .tuple ⟨[.agg ⟨[.int .i64 0, .int .i64 0, .slice none 0 0, .slice none 0 0, .int .i64 0]⟩, .int .i64 0, .int .i64 10]⟩
  else ∃ cs, p.1 = .tuple ⟨[.agg ⟨cs⟩, .int .i64 (Fk bs), .int .i64 0]⟩ ∧ Yu s.next p.2 cs (rdQ (bs, false)).1 := by
 obtain ⟨f, a, b, g, a', b', D, rfl, hD, hDb, hget⟩ := hf
 obtain ⟨ba, bc, hbv⟩ := hv.len
 have hvl := hv.lt
 refine zp fun Q hQ => ?_
 rw [zj hQf.iqFirst hQf.fqFirst rfl]
 subst hbv
 simp (maxDischargeDepth := 8) only [sA, sM, zb, zH, Cells.get, getN, Nat.reduceAdd, Nat.reduceLeDiff, zi, pp, pv, pw, pg, Nat.reduceLT, d64, hG]
 obtain ⟨S1, hS1⟩ : ∃ S1 : DS, S1 = ((((s.new (.cells (.list [.func (.func f) a b, .func (.func g) a' b']) false)).new (.cells (.list [.int .i64 0, .int .i64 0, .slice none 0 0, .slice none 0 0, .int .i64 0]) false)).new (.cells (.list [.int .i64 0, .int .i64 0, .slice none 0 0, .slice none 0 0, .int .i64 0]) false)).new (.cells (.list [.slice ba bs.length bc, .bool false]) false)) := ⟨_, rfl⟩
 rw [← hS1]
 have X1 : ∀ F, Ext F s S1 := fun F => by rw [hS1]; exact Ext.new.trans' (Ext.new.trans' (Ext.new.trans' Ext.new))
 have n1 : S1.next = s.next + 4 := by rw [hS1]; rfl
 have gB : S1.get (s.next + 1) = some (.cells (.list [.int .i64 0, .int .i64 0, .slice none 0 0, .slice none 0 0, .int .i64 0]) false) := by rw [hS1]; simp (maxDischargeDepth := 8) only [sM, Nat.reduceAdd, z8, Nat.reduceLT, hG]
 have gC : S1.get (s.next + 2) = some (.cells (.list [.int .i64 0, .int .i64 0, .slice none 0 0, .slice none 0 0, .int .i64 0]) false) := by rw [hS1]; simp (maxDischargeDepth := 8) only [sM, Nat.reduceAdd, z8, hG]
 have gI : S1.get (s.next + 3) = some (.cells (.list [.slice ba bs.length bc, .bool false]) false) := by rw [hS1]; simp (maxDischargeDepth := 8) only [sM, Nat.reduceAdd, z8, hG]
 have G1 := (X1 []).good hG
 have w1 : ∀ k, S1.wr (s.next + k) = true := fun k => by rw [(X1 []).wr]; exact (hG _ (by omega)).2
 have I1 : YZ S1 (s.next + 3) (.slice ba bs.length bc) bs false := ⟨gI, w1 3, hv.keep (X1 []) (by simp), fun h => by have := hvl _ h; omega⟩
 refine W.mono (hget d S1 (s.next + 3) _ bs false (hD.keep (X1 []) (by simp)) (fun p hp => by have := hDb p hp; omega) I1 hB hl G1) ?_
 rintro ⟨v2, s2⟩ ⟨bv2, R2, I2, X2, b2⟩
 simp only at R2 I2 X2 b2
 obtain ⟨cs, R2, hQa⟩ := shQ _ _ _ _ R2
 have hQb := hQa
 obtain ⟨b1, c1, b2', c2', hcs, _, _⟩ := hQb
 subst R2
 rw [hcs]
 have G2 := X2.good G1
 have le2 := X2.le
 have hB2 := X2.keep gB (by simp)
 have hC2 := X2.keep gC (by simp)
 have w2 : ∀ k, s2.wr (s.next + k) = true := fun k => X2.wrs (w1 k)
 have gr2 := I2.gr
 obtain ⟨a2, c2, hb2⟩ := I2.sl.len
 rw [hb2] at gr2
 obtain ⟨k, hk⟩ := Rj.suf (bs, false)
 have hrl : (rdQ (bs, false)).2.1.length ≤ bs.length := by rw [hk]; simp
 have hn : zt .i64 ((bs.length : Int) - ((rdQ (bs, false)).2.1.length : Int)) = Fk bs := zW (by omega) (by omega)
 have hn2 : ¬ (1048576 : Int) < Fk bs := by unfold Fk; omega
 have l1 : s.next + 1 < s2.next := by omega
 have l2 : s.next + 2 < s2.next := by omega
 have l3 : s.next + 3 < s2.next := by omega
 have U : ∀ o1 o2 o3 (F : List Nat), Ext ((s.next + 1) :: F) s2 (((s2.new o1).upd s2.next o2).upd (s.next + 1) o3) := fun o1 o2 o3 F => by
  have u1 : Ext ((s.next + 1) :: F) s2 (s2.new o1) := Ext.new
  have u2 : Ext [s2.next] (s2.new o1) ((s2.new o1).upd s2.next o2) := Ext.upd (.inl (by simp))
  have u3 : Ext ((s.next + 1) :: F) s2 ((s2.new o1).upd s2.next o2) := u1.trans u2 (by simp)
  have u4 : Ext ((s.next + 1) :: F) ((s2.new o1).upd s2.next o2) (((s2.new o1).upd s2.next o2).upd (s.next + 1) o3) := Ext.upd (.inl (List.mem_cons_self ..))
  exact u3.trans' u4
 have V : ∀ o1 o2 o3, Ext [] s (((s2.new o1).upd s2.next o2).upd (s.next + 1) o3) := fun o1 o2 o3 => ((X1 []).trans X2 (by simp)).trans (U o1 o2 o3 []) (by simp)
 simp only [sA, Nat.reduceEqDiff, Nat.reduceAdd, zh, zg, DS.wrC, Cells.size, Cells.fillFrom, Cells.set]
 have hne : ¬ s2.next = s.next + 1 := by omega
 cases hbad : (rdQ (bs, false)).2.2 with
 | true =>
  simp only [hbad, if_true] at hQ
  rw [hbad] at gr2
  simp (maxDischargeDepth := 8) only [sA, sM, zb, zo, zm, zk, za, ze, Cells.get, getN, Nat.reduceAdd, zh, zg, DS.wrC, Cells.size, Cells.fillFrom, Cells.set, zA, ldA, DS.read, Cells.take, Nat.reduceLT, hB2, hC2, w2, gr2, hn, G2, l1, l2, l3]
  exact hQ _ ⟨V _ _ _, rfl⟩
 | false =>
  simp only [hbad, z3, if_false] at hQ
  rw [hbad] at gr2
  simp (maxDischargeDepth := 8) only [sA, sM, zb, zo, zm, zk, za, ze, Cells.get, getN, Nat.reduceAdd, zh, zg, DS.wrC, Cells.size, Cells.fillFrom, Cells.set, zA, ldA, DS.read, Cells.take, Nat.reduceLT, hB2, hC2, w2, gr2, hn, hn2, G2, l1, l2, l3]
  exact hQ _ ⟨V _ _ _, _, rfl, hcs ▸ (hQa.stab (U _ _ _ []) (by simp; omega)).mono (by omega)⟩
def Ds (bs : List Int) : Prop := (rdQ (bs, false)).2.2 = false ∧ (rdQ (bs, false)).2.1 = []
theorem NV {m : Nat} {fv : Value} (hf : zD E 7 m s fv RL rdQ) (hv : SlR s bv bs) (hB : IsB bs) (hl : bs.length ≤ 1048576) (hG : s.Good) :
 W (dcall E (d + 9) (.func (.func 32) #[] #[]) [fv, bv] s) fun p => Ext [] s p.2 ∧ ((¬ Ds bs ∧ p.1 = .tuple ⟨[.agg ⟨[.int .i64 0, .int .i64 0, .slice none 0 0, .slice none 0 0, .int .i64 0]⟩, .int .i64 10]⟩) ∨
  (Ds bs ∧ ∃ cs, p.1 = .tuple ⟨[.agg ⟨cs⟩, .int .i64 0]⟩ ∧ Yu s.next p.2 cs (rdQ (bs, false)).1)) := by
 obtain ⟨f, a, b, g, a', b', D, rfl, hD, hDb, hget⟩ := hf
 obtain ⟨ba, bc, hbv⟩ := hv.len
 have hvl := hv.lt
 refine zp fun Q hQ => ?_
 rw [zj hQf.iqDec hQf.fqDec rfl]
 subst hbv
 simp (maxDischargeDepth := 8) only [sA, sM, Cells.get, getN, Nat.reduceAdd, pp, pv, ldA, DS.read, Cells.take, Nat.reduceLT, d32, hG]
 obtain ⟨S1, hS1⟩ : ∃ S1 : DS, S1 = (((s.new (.cells (.list [.func (.func f) a b, .func (.func g) a' b']) false)).new (.cells (.list [.int .i64 0, .int .i64 0, .slice none 0 0, .slice none 0 0, .int .i64 0]) false)).new (.cells (.list [.int .i64 0, .int .i64 0, .slice none 0 0, .slice none 0 0, .int .i64 0]) false)) := ⟨_, rfl⟩
 rw [← hS1]
 have X1 : ∀ F, Ext F s S1 := fun F => by rw [hS1]; exact Ext.new.trans' (Ext.new.trans' Ext.new)
 have n1 : S1.next = s.next + 3 := by rw [hS1]; rfl
 have gB : S1.get (s.next + 1) = some (.cells (.list [.int .i64 0, .int .i64 0, .slice none 0 0, .slice none 0 0, .int .i64 0]) false) := by rw [hS1]; simp (maxDischargeDepth := 8) only [sM, Nat.reduceAdd, z8, hG]
 have gC : S1.get (s.next + 2) = some (.cells (.list [.int .i64 0, .int .i64 0, .slice none 0 0, .slice none 0 0, .int .i64 0]) false) := by rw [hS1]; simp (maxDischargeDepth := 8) only [sM, Nat.reduceAdd, z8, hG]
 have G1 := (X1 []).good hG
 have w1 : ∀ k, S1.wr (s.next + k) = true := fun k => by rw [(X1 []).wr]; exact (hG _ (by omega)).2
 have hf1 : zD E 7 m S1 (.agg ⟨[.func (.func f) a b, .func (.func g) a' b']⟩) RL rdQ := zD.keep ⟨f, a, b, g, a', b', D, rfl, hD, hDb, hget⟩ (X1 [])
 refine W.mono (Sj hQf (d := d) hf1 (hv.keep (X1 []) (by simp)) hB hl G1) ?_
 rintro ⟨v2, s2⟩ ⟨X2, hv2⟩
 simp only at X2 hv2
 have G2 := X2.good G1
 have le2 := X2.le
 have hB2 := X2.keep gB (by simp)
 have hC2 := X2.keep gC (by simp)
 have w2 : ∀ k, s2.wr (s.next + k) = true := fun k => X2.wrs (w1 k)
 obtain ⟨k, hk⟩ := Rj.suf (bs, false)
 have hrl : (rdQ (bs, false)).2.1.length ≤ bs.length := by rw [hk]; simp
 have l1 : s.next + 1 < s2.next := by omega
 have l2 : s.next + 2 < s2.next := by omega
 have U : ∀ o1 o2 o3 (F : List Nat), Ext ((s.next + 1) :: F) s2 (((s2.new o1).upd s2.next o2).upd (s.next + 1) o3) := fun o1 o2 o3 F => by
  have u1 : Ext ((s.next + 1) :: F) s2 (s2.new o1) := Ext.new
  have u2 : Ext [s2.next] (s2.new o1) ((s2.new o1).upd s2.next o2) := Ext.upd (.inl (by simp))
  have u3 : Ext ((s.next + 1) :: F) s2 ((s2.new o1).upd s2.next o2) := u1.trans u2 (by simp)
  have u4 : Ext ((s.next + 1) :: F) ((s2.new o1).upd s2.next o2) (((s2.new o1).upd s2.next o2).upd (s.next + 1) o3) := Ext.upd (.inl (List.mem_cons_self ..))
  exact u3.trans' u4
 have V : ∀ o1 o2 o3, Ext [] s (((s2.new o1).upd s2.next o2).upd (s.next + 1) o3) := fun o1 o2 o3 => ((X1 []).trans' X2).trans (U o1 o2 o3 []) (by simp)
 have hne : ¬ s2.next = s.next + 1 := by omega
 cases hbad : (rdQ (bs, false)).2.2 with
 | true =>
  simp only [hbad, if_true] at hv2
  subst hv2
  simp (maxDischargeDepth := 8) only [sA, sM, zb, zo, zm, zk, za, ze, Cells.get, getN, Nat.reduceAdd, zh, zg, DS.wrC, Cells.size, Cells.fillFrom, Cells.set, zA, ldA, Int.reduceEq, DS.read, Cells.take, Nat.reduceLT, hB2, hC2, w2, G2, l1, l2]
  have hng : ¬ Ds bs := fun h => by rw [h.1] at hbad; cases hbad
  exact hQ _ ⟨V _ _ _, .inl ⟨hng, rfl⟩⟩
 | false =>
  simp only [hbad, z3, if_false] at hv2
  obtain ⟨cs, hv2, hQa⟩ := hv2
  have hQb := hQa
  obtain ⟨b1, c1, b2', c2', hcs, _, _⟩ := hQb
  subst hv2
  rw [hcs]
  by_cases hr : (rdQ (bs, false)).2.1 = []
  · have e1 : ¬ Fk bs < (bs.length : Int) := by unfold Fk; rw [hr]; simp
    simp (maxDischargeDepth := 8) only [sA, sM, zb, zo, zm, zk, za, ze, Cells.get, getN, Nat.reduceAdd, zh, zg, DS.wrC, Cells.size, Cells.fillFrom, Cells.set, zA, ldA, DS.read, Cells.take, Nat.reduceLT, hB2, hC2, w2, G2, l1, l2, e1]
    exact hQ _ ⟨V _ _ _, .inr ⟨⟨hbad, hr⟩, _, rfl, hcs ▸ (hQa.stab (U _ _ _ []) (by simp; omega)).mono (by omega)⟩⟩
  · have e1 : Fk bs < (bs.length : Int) := by
     have : 0 < (rdQ (bs, false)).2.1.length := List.length_pos_iff.2 hr
     unfold Fk
     omega
    simp (maxDischargeDepth := 8) only [sA, sM, zb, zo, zm, zk, za, ze, Cells.get, getN, Nat.reduceAdd, zh, zg, DS.wrC, Cells.size, Cells.fillFrom, Cells.set, zA, ldA, DS.read, Cells.take, Nat.reduceLT, hB2, hC2, w2, G2, l1, l2, e1]
    exact hQ _ ⟨V _ _ _, .inl ⟨fun h => hr h.2, rfl⟩⟩
end
section
variable {E : Env} (hC : Ja E) (hG' : GF E) (hR : VX E) (hT : GD E) (hQf : PL E) {s : DS} {d : Nat} {bv : Value} {bs : List Int}
include hC hG' hR hT hQf
def WB (bs : List Int) : Prop := Ds bs ∧ XT (rdQ (bs, false)).1
theorem Cv (hv : SlR s bv bs) (hB : IsB bs) (hl : bs.length ≤ 1048576) (hG : s.Good) :
 W (dcall E (d + 10) (.func (.func 12) #[] #[]) [bv] s) fun p => Ext [] s p.2 ∧ ((¬ WB bs ∧ p.1 = .tuple ⟨[.agg ⟨[.int .i64 0, .int .i64 0, .slice none 0 0, .slice none 0 0, .int .i64 0]⟩, .int .i64 10]⟩) ∨
  (WB bs ∧ ∃ cs, p.1 = .tuple ⟨[.agg ⟨cs⟩, .int .i64 0]⟩ ∧ Yu s.next p.2 cs (rdQ (bs, false)).1)) := by
 obtain ⟨ba, bc, hbv⟩ := hv.len
 have hvl := hv.lt
 refine zp fun Q hQ => ?_
 rw [zj hQf.iqDecode hQf.fqDecode rfl]
 simp (maxDischargeDepth := 8) only [sA, pp, pv, pg, d12, hG]
 obtain ⟨S1, hS1⟩ : ∃ S1 : DS, S1 = s.new (.cells (.list [.int .i64 0, .int .i64 0, .slice none 0 0, .slice none 0 0, .int .i64 0]) false) := ⟨_, rfl⟩
 rw [← hS1]
 have X1 : Ext [] s S1 := by rw [hS1]; exact Ext.new
 have G1 := X1.good hG
 have g1 : S1.get s.next = some (.cells (.list [.int .i64 0, .int .i64 0, .slice none 0 0, .slice none 0 0, .int .i64 0]) false) := by rw [hS1]; exact DS.new_get_self hG
 have w1 : S1.wr s.next = true := X1.wrs (hG _ (Nat.le_refl _)).2
 refine W.mono (RW hC hG' hR hQf (d := d + 6) G1) ?_
 rintro ⟨v2, s2⟩ ⟨f2, X2⟩
 simp only at f2 X2
 have G2 := X2.good G1
 simp only [sA, Nat.reduceEqDiff, reduceCtorEq]
 refine W.mono (NV hQf (d := d) f2 ((hv.keep X1 (by simp)).keep X2 (by simp)) hB hl G2) ?_
 rintro ⟨v3, s3⟩ ⟨X3, h3⟩
 simp only at X3 h3
 have G3 := X3.good G2
 have g3 := X3.keep (X2.keep g1 (by simp)) (by simp)
 have w3 := X3.wrs (X2.wrs w1)
 have l3 := DS.get_lt' g3
 have X03 := (X1.trans' X2).trans' X3
 have U : ∀ o1 o2 o3 o4, Ext [] s3 ((((s3.new o1).upd s3.next o2).new o3).upd (s3.next + 1) o4) := fun o1 o2 o3 o4 => by
  have e1 : Ext [] s3 (s3.new o1) := Ext.new
  have e2 : Ext [s3.next] (s3.new o1) ((s3.new o1).upd s3.next o2) := Ext.upd (.inl (by simp))
  have e3 : Ext [] ((s3.new o1).upd s3.next o2) (((s3.new o1).upd s3.next o2).new o3) := Ext.new
  have e4 : Ext [s3.next + 1] (((s3.new o1).upd s3.next o2).new o3) ((((s3.new o1).upd s3.next o2).new o3).upd (s3.next + 1) o4) := Ext.upd (.inl (by simp))
  exact ((e1.trans e2 (by simp)).trans' e3).trans e4 (by simp)
 have hsn : s.next ≤ s3.next := by omega
 rcases h3 with ⟨hng, h3⟩ | ⟨hg, cs, h3, hQa⟩
 · subst h3
   have hn : ¬ WB bs := fun h => hng h.1
   simp (maxDischargeDepth := 8) only [sA, sM, zb, zo, zm, zk, za, ze, Cells.get, getN, Nat.reduceAdd, zh, zg, Nat.reduceLeDiff, DS.wrC, Cells.size, Cells.fillFrom, Cells.set, zA, zi, Int.reduceEq, DS.read, Cells.take, Nat.reduceLT, g3, w3, G3, l3]
   exact hQ _ ⟨(X03.trans' (U _ _ _ _)).trans (Ext.upd (F := [s.next]) (.inl (by simp))) (by simp), .inl ⟨hn, rfl⟩⟩
 · subst h3
   obtain ⟨x, hx⟩ : ∃ x, x = (rdQ (bs, false)).1 := ⟨_, rfl⟩
   rw [← hx] at hQ hQa
   have hQb := hQa
   obtain ⟨b1, c1, b2, c2, hcs, _, _⟩ := hQb
   subst hcs
   simp (maxDischargeDepth := 8) only [sA, sM, zb, zo, zm, Cells.get, getN, Nat.reduceAdd, zh, zg, Nat.reduceLeDiff, DS.wrC, Cells.size, Cells.fillFrom, Cells.set, zA, zi, ldA, DS.read, Cells.take, Nat.reduceLT, g3, w3, G3, l3]
   obtain ⟨S4, hS4⟩ : ∃ S4 : DS, S4 = ((((s3.new (.cells (.list [.int .i64 0, .int .i64 0, .slice none 0 0, .slice none 0 0, .int .i64 0]) false)).upd s3.next (.cells (.list [.int .i64 x.1.1, .int .i64 x.1.2, .slice b1 x.2.1.length c1, .slice b2 x.2.2.1.length c2, .int .i64 x.2.2.2]) false)).new (.cells (.list [.int .i64 0, .int .i64 0, .slice none 0 0, .slice none 0 0, .int .i64 0]) false)).upd (s3.next + 1) (.cells (.list [.int .i64 x.1.1, .int .i64 x.1.2, .slice b1 x.2.1.length c1, .slice b2 x.2.2.1.length c2, .int .i64 x.2.2.2]) false)) := ⟨_, rfl⟩
   rw [← hS4]
   have X4 : Ext [] s3 S4 := by rw [hS4]; exact U _ _ _ _
   have G4 := X4.good G3
   have gx : S4.get (s3.next + 1) = some (.cells (.list [.int .i64 x.1.1, .int .i64 x.1.2, .slice b1 x.2.1.length c1, .slice b2 x.2.2.1.length c2, .int .i64 x.2.2.2]) false) := by rw [hS4]; simp (maxDischargeDepth := 8) only [sA, sM, G3]
   have g4 := X4.keep g3 (by simp)
   have w4 := X4.wrs w3
   refine W.mono (Gb hT (d := d + 6) G4 x b1 b2 c1 c2) ?_
   rintro ⟨v5, s5⟩ ⟨h5, X5⟩
   simp only at h5 X5
   subst h5
   have gx5 := X5.keep gx (by simp)
   have g5 := X5.keep g4 (by simp)
   have w5 := X5.wrs w4
   have X05 := (X03.trans' X4).trans' X5
   have XF : ∀ o, Ext [] s (s5.upd s.next o) := fun o => X05.trans (Ext.upd (F := [s.next]) (.inl (by simp))) (by simp)
   have hln : s.next + 1 ≤ s2.next := by
    have h9 : S1.next = s.next + 1 := by rw [hS1]; rfl
    have := X2.le
    omega
   have XG : ∀ o, Yu (s.next + 1) (s5.upd s.next o) [.int .i64 x.1.1, .int .i64 x.1.2, .slice b1 x.2.1.length c1, .slice b2 x.2.2.1.length c2, .int .i64 x.2.2.2] x := fun o => (((hQa.mono (n' := s.next + 1) hln).stab X4 (by simp)).stab X5 (by simp)).stab (Ext.upd (F := [s.next]) (.inl (by simp))) (by simp)
   by_cases hm : XT x
   · rw [decide_eq_true hm]
     simp (maxDischargeDepth := 8) only [sA, sM, zb, zk, za, ze, Cells.get, getN, Nat.reduceAdd, zh, zg, DS.wrC, Cells.size, Cells.fillFrom, Cells.set, zA, ldA, DS.read, Cells.take, Nat.reduceLT, gx5, g5, w5]
     exact hQ _ ⟨XF _, .inr ⟨⟨hg, by rw [← hx]; exact hm⟩, _, rfl, (XG _).mono (by omega)⟩⟩
   · rw [decide_eq_false hm]
     simp (maxDischargeDepth := 8) only [sA, sM, zb, zk, za, ze, Cells.get, getN, Nat.reduceAdd, zh, zg, DS.wrC, Cells.size, Cells.fillFrom, Cells.set, zA, zi, DS.read, Cells.take, Nat.reduceLT, gx5, g5, w5]
     exact hQ _ ⟨XF _, .inl ⟨fun h => hm (by rw [hx]; exact h.2), rfl⟩⟩
end
end Go.Dx.TbA
