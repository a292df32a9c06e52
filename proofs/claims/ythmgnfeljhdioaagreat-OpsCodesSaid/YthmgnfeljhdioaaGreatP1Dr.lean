/- A part. -/
import Derived.Test.YthmgnfeljhdioaaGreatP1Cg
set_option linter.unusedVariables false
set_option linter.unusedSimpArgs false
set_option linter.unusedSectionVars false
set_option maxRecDepth 100000
set_option maxHeartbeats 4000000
namespace Go.Dx.TbA
open Go Go.Dx Go.Proofs.YthmgnfeljhdioaaGreat
structure VX (E : Env) : Prop where
 fbyte : E.fn 54 = some d54
 ibyte : E.intr 54 = none
 fint : E.fn 55 = some d55
 iint : E.intr 55 = none
 fbII : E.fn 53 = some d53
 ibII : E.intr 53 = none
 fbII2 : E.fn 83 = some d83
 ibII2 : E.intr 83 = none
 fbHB : E.fn 61 = some d61
 ibHB : E.intr 61 = none
 fbHB2 : E.fn 99 = some d99
 ibHB2 : E.intr 99 = none
 fbIH : E.fn 63 = some d63
 ibIH : E.intr 63 = none
 fbIH2 : E.fn 104 = some d104
 ibIH2 : E.intr 104 = none
 fbTT : E.fn 60 = some d60
 ibTT : E.intr 60 = none
 fbTT2 : E.fn 97 = some d97
 ibTT2 : E.intr 97 = none
 fflag : E.fn 62 = some d62
 iflag : E.intr 62 = none
 fflag2 : E.fn 102 = some d102
 iflag2 : E.intr 102 = none
 fturn : E.fn 100 = some d100
 iturn : E.intr 100 = none
 fturn2 : E.fn 125 = some d125
 iturn2 : E.intr 125 = none
 fform : E.fn 29 = some d29
 iform : E.intr 29 = none
 fFirstR : E.fn 67 = some d67
 iFirstR : E.intr 67 = none
 fDecR : E.fn 37 = some d37
 iDecR : E.intr 37 = none
 fDecRep : E.fn 15 = some d15
 iDecRep : E.intr 15 = none
 fmayR : E.fn 27 = some d27
 imayR : E.intr 27 = none
 fr : ∀ d, zG (dcall E d)
abbrev Dp := ((Int × Int) × Bool) × (Int × (Int × Int))
def Fz : Nat → DS → Value → Dp → Prop := ZW (ZW (ZW ZY ZY) Fc) (ZW ZY (ZW ZY ZY))
def Xg : RS → Dp × RS := rdP (rdP (rdP (rdN 1 255) (rdN 8 0)) rdF) (rdP (rdN 1 255) (rdP (rdN 8 0) (rdN 8 0)))
theorem CK : XQ Xg := YH (YH (YH (zT _ _) (zT _ _)) Rn) (YH (zT _ _) (YH (zT _ _) (zT _ _)))
def tdV (x : Dp) : List Value := [.int .i64 x.1.1.1, .int .i64 x.1.1.2, .bool x.1.2, .int .i64 x.2.1, .int .i64 x.2.2.1, .int .i64 x.2.2.2]
theorem TK (o : Nat) (s : DS) (v : Value) (x : Int × Int) (h : ZW ZY ZY o s v x) : v = .agg ⟨[.int .i64 x.1, .int .i64 x.2]⟩ := by
 obtain ⟨a, b, e, h1, h2⟩ := h
 have h1 : a = _ := h1
 have h2 : b = _ := h2
 subst h1 h2
 exact e
theorem Lj (o : Nat) (s : DS) (v : Value) (x : (Int × Int) × Bool) (h : ZW (ZW ZY ZY) Fc o s v x) : v = .agg ⟨[.int .i64 x.1.1, .int .i64 x.1.2, .bool x.2]⟩ := by
 obtain ⟨a, b, e, h1, h2⟩ := h
 have h1 := TK _ _ _ _ h1
 have h2 : b = _ := h2
 subst h1 h2
 exact e
theorem Li (o : Nat) (s : DS) (v : Value) (x : Int × (Int × Int)) (h : ZW ZY (ZW ZY ZY) o s v x) : v = .agg ⟨[.int .i64 x.1, .int .i64 x.2.1, .int .i64 x.2.2]⟩ := by
 obtain ⟨a, b, e, h1, h2⟩ := h
 have h1 : a = _ := h1
 have h2 := TK _ _ _ _ h2
 subst h1 h2
 exact e
theorem LP (o : Nat) (s : DS) (v : Value) (x : Dp) (h : Fz o s v x) : v = .agg ⟨tdV x⟩ := by
 obtain ⟨a, b, e, h1, h2⟩ := h
 have h1 := Lj _ _ _ _ h1
 have h2 := Li _ _ _ _ h2
 subst h1 h2
 exact e
section
variable {E : Env} (hC : Ja E) (hG' : GF E) (hR : VX E) {s : DS} {d : Nat}
include hC hG' hR
theorem RV (hG : s.Good) : W (dcall E (d + 3) (.func (.func 29) #[] #[]) [] s) fun r => zD E 6 s.next r.2 r.1 Fz Xg ∧ Ext [] s r.2 := by
 refine zp fun Q hQ => ?_
 rw [zj hR.iform hR.fform rfl]
 simp (maxDischargeDepth := 8) only [sA, pp, d29, hG]
 have h0 : ∀ o, (s.new o).get s.next = some o := fun o => DS.new_get_self hG
 have w0 : (s.new (.cells (.list [.nilFunc, .nilFunc]) false)).wr s.next = true := (hG _ (Nat.le_refl _)).2
 refine W.mono (Wn hG' hC (m := s.next + 1) (DS.new_good hG) (Nat.le_refl _) hR.fbyte hR.ibyte) ?_
 rintro ⟨v1, s1⟩ ⟨q1, X1⟩
 simp only at q1 X1
 have hG1 := X1.good (DS.new_good hG)
 have l1 : s.next + 1 ≤ s1.next := X1.le
 simp only [sA]
 refine W.mono (Ya hG' hC (m := s.next + 1) hG1 l1 hR.fint hR.iint) ?_
 rintro ⟨v2, s2⟩ ⟨q2, X2⟩
 simp only at q2 X2
 have hG2 := X2.good hG1
 have l2 := Nat.le_trans l1 X2.le
 simp only [sA, Nat.reduceEqDiff]
 refine W.mono (XO hG' hC l2 hG2 (q1.keep X2) q2 hR.fbII hR.ibII fun ha hb => QE ha hb zN zN (zT _ _) (fun _ _ _ x h => ⟨x, h⟩) (fun _ _ _ x h => ⟨x, h⟩) hR.fbII2 hR.ibII2) ?_
 rintro ⟨v3, s3⟩ ⟨q3, X3⟩
 simp only at q3 X3
 have hG3 := X3.good hG2
 have l3 := Nat.le_trans l2 X3.le
 simp only [sA]
 refine W.mono (FL hG' hC hG3 l3 hR.fflag hR.iflag hR.fturn hR.iturn hR.fturn2 hR.iturn2 hR.fflag2 hR.iflag2 hR.fr) ?_
 rintro ⟨v4, s4⟩ ⟨q4, X4⟩
 simp only at q4 X4
 have hG4 := X4.good hG3
 have l4 := Nat.le_trans l3 X4.le
 simp only [sA, Nat.reduceEqDiff]
 refine W.mono (Vf hG' hC l4 hG4 (q3.keep X4) q4 hR.fbHB hR.ibHB fun ha hb => Cg ha hb (YR zN zN) Fb (YH (zT _ _) (zT _ _)) (fun _ _ _ x h => ⟨_, _, TK _ _ _ _ h⟩) (fun _ _ _ x h => ⟨x, h⟩) (fun _ _ _ _ _ h _ => h) hR.fr hR.fbHB2 hR.ibHB2) ?_
 rintro ⟨v5, s5⟩ ⟨q5, X5⟩
 simp only at q5 X5
 have hG5 := X5.good hG4
 have l5 := Nat.le_trans l4 X5.le
 simp only [sA]
 refine W.mono (Wn hG' hC (m := s.next + 1) hG5 l5 hR.fbyte hR.ibyte) ?_
 rintro ⟨v6, s6⟩ ⟨q6, X6⟩
 simp only at q6 X6
 have hG6 := X6.good hG5
 have l6 := Nat.le_trans l5 X6.le
 simp only [sA]
 refine W.mono (Ya hG' hC (m := s.next + 1) hG6 l6 hR.fint hR.iint) ?_
 rintro ⟨v7, s7⟩ ⟨q7, X7⟩
 simp only at q7 X7
 have hG7 := X7.good hG6
 have l7 := Nat.le_trans l6 X7.le
 simp only [sA]
 refine W.mono (Ya hG' hC (m := s.next + 1) hG7 l7 hR.fint hR.iint) ?_
 rintro ⟨v8, s8⟩ ⟨q8, X8⟩
 simp only at q8 X8
 have hG8 := X8.good hG7
 have l8 := Nat.le_trans l7 X8.le
 simp only [sA, Nat.reduceEqDiff]
 refine W.mono (XO hG' hC l8 hG8 (q7.keep X8) q8 hR.fbII hR.ibII fun ha hb => QE ha hb zN zN (zT _ _) (fun _ _ _ x h => ⟨x, h⟩) (fun _ _ _ x h => ⟨x, h⟩) hR.fbII2 hR.ibII2) ?_
 rintro ⟨v9, s9⟩ ⟨q9, X9⟩
 simp only at q9 X9
 have hG9 := X9.good hG8
 have l9 := Nat.le_trans l8 X9.le
 simp only [sA, Nat.reduceEqDiff]
 refine W.mono (Ve hG' hC l9 hG9 ((q6.keep (X7.trans' (X8.trans' X9))).mono (show 3 ≤ 4 by omega)) q9 hR.fbIH hR.ibIH fun ha hb => Ce ha hb zN (YR zN zN) (zT _ _) (fun _ _ _ x h => ⟨x, h⟩) (fun _ _ _ x h => ⟨_, _, TK _ _ _ _ h⟩) hR.fbIH2 hR.ibIH2) ?_
 rintro ⟨va, sa⟩ ⟨qa, Xa⟩
 simp only at qa Xa
 have hGa := Xa.good hG9
 have la := Nat.le_trans l9 Xa.le
 have X5a := X6.trans' (X7.trans' (X8.trans' (X9.trans' Xa)))
 simp only [sA, Nat.reduceEqDiff]
 refine W.mono (Vg hG' hC la hGa (q5.keep X5a) qa hR.fbTT hR.ibTT fun ha hb => Ci ha hb (YR (YR zN zN) Fb) (YR zN (YR zN zN)) (YH (YH (zT _ _) (zT _ _)) Rn) (fun _ _ _ x h => ⟨_, _, _, Lj _ _ _ _ h⟩) (fun _ _ _ x h => ⟨_, _, _, Li _ _ _ _ h⟩) (fun _ _ _ _ _ h _ => h) hR.fr hR.fbTT2 hR.ibTT2) ?_
 rintro ⟨vb, sb⟩ ⟨qb, Xb⟩
 simp only at qb Xb
 have X0b := (X1.trans' (X2.trans' (X3.trans' (X4.trans' X5)))).trans' (X5a.trans' Xb)
 have g6 := X0b.keep (h0 _) (by simp)
 have w6 := X0b.wrs w0
 obtain ⟨f, a, b, g, a', b', D, rfl, k2, k3, k4⟩ := qb
 simp (maxDischargeDepth := 8) only [sA, sM, zk, za, ze, Cells.get, getN, Nat.reduceAdd, zh, zg, DS.wrC, Cells.size, Cells.fillFrom, Cells.set, zA, DS.read, Cells.take, g6, w6]
 have XF : ∀ o, Ext [] s (sb.upd s.next o) := fun o => (Ext.new.trans' X0b).trans (Ext.upd (F := [s.next]) (.inl (by simp))) (by simp)
 refine hQ _ ⟨⟨f, a, b, g, a', b', D, rfl, fun p hp => ?_, fun p hp => ?_, k4⟩, XF _⟩
 · have := (k3 p hp).1
   simp (maxDischargeDepth := 8) only [sA, k2 p hp, show ¬ p.1 = s.next by omega]
 · have := k3 p hp
   simp (maxDischargeDepth := 8) only [DS.upd_next]
   omega
end
section
variable {E : Env} (hR : VX E) {s : DS} {d : Nat} {bv : Value} {bs : List Int}
include hR
def nRd (bs : List Int) : Int := (bs.length : Int) - ((Xg (bs, false)).2.1.length : Int)
theorem Si {m : Nat} {fv : Value} (hf : zD E 6 m s fv Fz Xg) (hv : SlR s bv bs) (hB : IsB bs) (hl : bs.length ≤ 1048576) (hG : s.Good) :
 W (dcall E (d + 7) (.func (.func 67) #[] #[]) [fv, bv] s) fun p => Ext [] s p.2 ∧ if (Xg (bs, false)).2.2 = true then p.1 = .tuple ⟨[.agg ⟨[.int .i64 0, .int .i64 0, .bool false, .int .i64 0, .int .i64 0, .int .i64 0]⟩, .int .i64 0, .int .i64 10]⟩
  else p.1 = .tuple ⟨[.agg ⟨tdV (Xg (bs, false)).1⟩, .int .i64 (nRd bs), .int .i64 0]⟩ := by
 obtain ⟨f, a, b, g, a', b', D, rfl, hD, hDb, hget⟩ := hf
 obtain ⟨ba, bc, hbv⟩ := hv.len
 have hvl := hv.lt
 refine zp fun Q hQ => ?_
 rw [zj hR.iFirstR hR.fFirstR rfl]
 subst hbv
 simp (maxDischargeDepth := 8) only [sA, sM, zb, zH, Cells.get, getN, Nat.reduceAdd, Nat.reduceLeDiff, zi, pp, pv, pw, pg, Nat.reduceLT, d67, hG]
 obtain ⟨S1, hS1⟩ : ∃ S1 : DS, S1 = ((((s.new (.cells (.list [.func (.func f) a b, .func (.func g) a' b']) false)).new (.cells (.list [.int .i64 0, .int .i64 0, .bool false, .int .i64 0, .int .i64 0, .int .i64 0]) false)).new (.cells (.list [.int .i64 0, .int .i64 0, .bool false, .int .i64 0, .int .i64 0, .int .i64 0]) false)).new (.cells (.list [.slice ba bs.length bc, .bool false]) false)) := ⟨_, rfl⟩
 rw [← hS1]
 have X1 : ∀ F, Ext F s S1 := fun F => by rw [hS1]; exact Ext.new.trans' (Ext.new.trans' (Ext.new.trans' Ext.new))
 have n1 : S1.next = s.next + 4 := by rw [hS1]; rfl
 have gB : S1.get (s.next + 1) = some (.cells (.list [.int .i64 0, .int .i64 0, .bool false, .int .i64 0, .int .i64 0, .int .i64 0]) false) := by rw [hS1]; simp (maxDischargeDepth := 8) only [sM, Nat.reduceAdd, z8, Nat.reduceLT, hG]
 have gC : S1.get (s.next + 2) = some (.cells (.list [.int .i64 0, .int .i64 0, .bool false, .int .i64 0, .int .i64 0, .int .i64 0]) false) := by rw [hS1]; simp (maxDischargeDepth := 8) only [sM, Nat.reduceAdd, z8, hG]
 have gI : S1.get (s.next + 3) = some (.cells (.list [.slice ba bs.length bc, .bool false]) false) := by rw [hS1]; simp (maxDischargeDepth := 8) only [sM, Nat.reduceAdd, z8, hG]
 have G1 := (X1 []).good hG
 have w1 : ∀ k, S1.wr (s.next + k) = true := fun k => by rw [(X1 []).wr]; exact (hG _ (by omega)).2
 have I1 : YZ S1 (s.next + 3) (.slice ba bs.length bc) bs false := ⟨gI, w1 3, hv.keep (X1 []) (by simp), fun h => by have := hvl _ h; omega⟩
 refine W.mono (hget d S1 (s.next + 3) _ bs false (hD.keep (X1 []) (by simp)) (fun p hp => by have := hDb p hp; omega) I1 hB hl G1) ?_
 rintro ⟨v2, s2⟩ ⟨bv2, R2, I2, X2, b2⟩
 simp only at R2 I2 X2 b2
 have R2 := LP _ _ _ _ R2
 unfold tdV at R2 hQ
 subst R2
 have G2 := X2.good G1
 have le2 := X2.le
 have hB2 := X2.keep gB (by simp)
 have hC2 := X2.keep gC (by simp)
 have w2 : ∀ k, s2.wr (s.next + k) = true := fun k => X2.wrs (w1 k)
 have gr2 := I2.gr
 obtain ⟨a2, c2, hb2⟩ := I2.sl.len
 rw [hb2] at gr2
 obtain ⟨k, hk⟩ := CK.suf (bs, false)
 have hrl : (Xg (bs, false)).2.1.length ≤ bs.length := by rw [hk]; simp
 have hn : zt .i64 ((bs.length : Int) - ((Xg (bs, false)).2.1.length : Int)) = nRd bs := zW (by omega) (by omega)
 have hn2 : ¬ (1048576 : Int) < nRd bs := by unfold nRd; omega
 have l1 : s.next + 1 < s2.next := by omega
 have l2 : s.next + 2 < s2.next := by omega
 have l3 : s.next + 3 < s2.next := by omega
 have U : ∀ o1 o2 o3 (F : List Nat), Ext ((s.next + 1) :: F) s2 (((s2.new o1).upd s2.next o2).upd (s.next + 1) o3) := fun o1 o2 o3 F => by
  have u1 : Ext ((s.next + 1) :: F) s2 (s2.new o1) := Ext.new
  have u2 : Ext [s2.next] (s2.new o1) ((s2.new o1).upd s2.next o2) := Ext.upd (.inl (by simp))
  have u3 : Ext ((s.next + 1) :: F) s2 ((s2.new o1).upd s2.next o2) := u1.trans u2 (by simp)
  have u4 : Ext ((s.next + 1) :: F) ((s2.new o1).upd s2.next o2) (((s2.new o1).upd s2.next o2).upd (s.next + 1) o3) := Ext.upd (.inl (List.mem_cons_self ..))
  exact u3.trans' u4
 have V : ∀ o1 o2 o3, Ext [] s (((s2.new o1).upd s2.next o2).upd (s.next + 1) o3) := fun o1 o2 o3 => ((X1 []).trans X2 (by simp)).trans (U o1 o2 o3 []) (by simp)
 simp only [sA, Nat.reduceEqDiff, Nat.reduceAdd, zh, zg, DS.wrC, Cells.size, Cells.fillFrom, Cells.set]
 have hne : ¬ s2.next = s.next + 1 := by omega
 cases hbad : (Xg (bs, false)).2.2 with
 | true =>
  simp only [hbad, if_true] at hQ
  rw [hbad] at gr2
  simp (maxDischargeDepth := 8) only [sA, sM, zb, zo, zm, zk, za, ze, Cells.get, getN, Nat.reduceAdd, zh, zg, DS.wrC, Cells.size, Cells.fillFrom, Cells.set, zA, ldA, DS.read, Cells.take, Nat.reduceLT, hB2, hC2, w2, gr2, hn, G2, l1, l2, l3]
  exact hQ _ ⟨V _ _ _, rfl⟩
 | false =>
  simp only [hbad, z3, if_false] at hQ
  rw [hbad] at gr2
  simp (maxDischargeDepth := 8) only [sA, sM, zb, zo, zm, zk, za, ze, Cells.get, getN, Nat.reduceAdd, zh, zg, DS.wrC, Cells.size, Cells.fillFrom, Cells.set, zA, ldA, DS.read, Cells.take, Nat.reduceLT, hB2, hC2, w2, gr2, hn, hn2, G2, l1, l2, l3]
  exact hQ _ ⟨V _ _ _, rfl⟩
def Dr (bs : List Int) : Prop := (Xg (bs, false)).2.2 = false ∧ (Xg (bs, false)).2.1 = []
theorem NU {m : Nat} {fv : Value} (hf : zD E 6 m s fv Fz Xg) (hv : SlR s bv bs) (hB : IsB bs) (hl : bs.length ≤ 1048576) (hG : s.Good) :
 W (dcall E (d + 8) (.func (.func 37) #[] #[]) [fv, bv] s) fun p => Ext [] s p.2 ∧ ((¬ Dr bs ∧ p.1 = .tuple ⟨[.agg ⟨[.int .i64 0, .int .i64 0, .bool false, .int .i64 0, .int .i64 0, .int .i64 0]⟩, .int .i64 10]⟩) ∨
  (Dr bs ∧ p.1 = .tuple ⟨[.agg ⟨tdV (Xg (bs, false)).1⟩, .int .i64 0]⟩)) := by
 obtain ⟨f, a, b, g, a', b', D, rfl, hD, hDb, hget⟩ := hf
 obtain ⟨ba, bc, hbv⟩ := hv.len
 have hvl := hv.lt
 refine zp fun Q hQ => ?_
 rw [zj hR.iDecR hR.fDecR rfl]
 subst hbv
 simp (maxDischargeDepth := 8) only [sA, sM, Cells.get, getN, Nat.reduceAdd, pp, pv, ldA, DS.read, Cells.take, Nat.reduceLT, d37, hG]
 obtain ⟨S1, hS1⟩ : ∃ S1 : DS, S1 = (((s.new (.cells (.list [.func (.func f) a b, .func (.func g) a' b']) false)).new (.cells (.list [.int .i64 0, .int .i64 0, .bool false, .int .i64 0, .int .i64 0, .int .i64 0]) false)).new (.cells (.list [.int .i64 0, .int .i64 0, .bool false, .int .i64 0, .int .i64 0, .int .i64 0]) false)) := ⟨_, rfl⟩
 rw [← hS1]
 have X1 : ∀ F, Ext F s S1 := fun F => by rw [hS1]; exact Ext.new.trans' (Ext.new.trans' Ext.new)
 have n1 : S1.next = s.next + 3 := by rw [hS1]; rfl
 have gB : S1.get (s.next + 1) = some (.cells (.list [.int .i64 0, .int .i64 0, .bool false, .int .i64 0, .int .i64 0, .int .i64 0]) false) := by rw [hS1]; simp (maxDischargeDepth := 8) only [sM, Nat.reduceAdd, z8, hG]
 have gC : S1.get (s.next + 2) = some (.cells (.list [.int .i64 0, .int .i64 0, .bool false, .int .i64 0, .int .i64 0, .int .i64 0]) false) := by rw [hS1]; simp (maxDischargeDepth := 8) only [sM, Nat.reduceAdd, z8, hG]
 have G1 := (X1 []).good hG
 have w1 : ∀ k, S1.wr (s.next + k) = true := fun k => by rw [(X1 []).wr]; exact (hG _ (by omega)).2
 have hf1 : zD E 6 m S1 (.agg ⟨[.func (.func f) a b, .func (.func g) a' b']⟩) Fz Xg := zD.keep ⟨f, a, b, g, a', b', D, rfl, hD, hDb, hget⟩ (X1 [])
 refine W.mono (Si hR (d := d) hf1 (hv.keep (X1 []) (by simp)) hB hl G1) ?_
 rintro ⟨v2, s2⟩ ⟨X2, hv2⟩
 simp only at X2 hv2
 have G2 := X2.good G1
 have le2 := X2.le
 have hB2 := X2.keep gB (by simp)
 have hC2 := X2.keep gC (by simp)
 have w2 : ∀ k, s2.wr (s.next + k) = true := fun k => X2.wrs (w1 k)
 obtain ⟨k, hk⟩ := CK.suf (bs, false)
 have hrl : (Xg (bs, false)).2.1.length ≤ bs.length := by rw [hk]; simp
 have l1 : s.next + 1 < s2.next := by omega
 have l2 : s.next + 2 < s2.next := by omega
 have U : ∀ o1 o2 o3 (F : List Nat), Ext ((s.next + 1) :: F) s2 (((s2.new o1).upd s2.next o2).upd (s.next + 1) o3) := fun o1 o2 o3 F => by
  have u1 : Ext ((s.next + 1) :: F) s2 (s2.new o1) := Ext.new
  have u2 : Ext [s2.next] (s2.new o1) ((s2.new o1).upd s2.next o2) := Ext.upd (.inl (by simp))
  have u3 : Ext ((s.next + 1) :: F) s2 ((s2.new o1).upd s2.next o2) := u1.trans u2 (by simp)
  have u4 : Ext ((s.next + 1) :: F) ((s2.new o1).upd s2.next o2) (((s2.new o1).upd s2.next o2).upd (s.next + 1) o3) := Ext.upd (.inl (List.mem_cons_self ..))
  exact u3.trans' u4
 have V : ∀ o1 o2 o3, Ext [] s (((s2.new o1).upd s2.next o2).upd (s.next + 1) o3) := fun o1 o2 o3 => ((X1 []).trans' X2).trans (U o1 o2 o3 []) (by simp)
 have hne : ¬ s2.next = s.next + 1 := by omega
 cases hbad : (Xg (bs, false)).2.2 with
 | true =>
  simp only [hbad, if_true] at hv2
  subst hv2
  simp (maxDischargeDepth := 8) only [sA, sM, zb, zo, zm, zk, za, ze, Cells.get, getN, Nat.reduceAdd, zh, zg, DS.wrC, Cells.size, Cells.fillFrom, Cells.set, zA, ldA, Int.reduceEq, DS.read, Cells.take, Nat.reduceLT, hB2, hC2, w2, G2, l1, l2]
  have hng : ¬ Dr bs := fun h => by rw [h.1] at hbad; cases hbad
  exact hQ _ ⟨V _ _ _, .inl ⟨hng, rfl⟩⟩
 | false =>
  simp only [hbad, z3, if_false] at hv2
  unfold tdV at hv2 hQ
  subst hv2
  by_cases hr : (Xg (bs, false)).2.1 = []
  · have e1 : ¬ nRd bs < (bs.length : Int) := by unfold nRd; rw [hr]; simp
    simp (maxDischargeDepth := 8) only [sA, sM, zb, zo, zm, zk, za, ze, Cells.get, getN, Nat.reduceAdd, zh, zg, DS.wrC, Cells.size, Cells.fillFrom, Cells.set, zA, ldA, DS.read, Cells.take, Nat.reduceLT, hB2, hC2, w2, G2, l1, l2, e1]
    exact hQ _ ⟨V _ _ _, .inr ⟨⟨hbad, hr⟩, rfl⟩⟩
  · have e1 : nRd bs < (bs.length : Int) := by
     have : 0 < (Xg (bs, false)).2.1.length := List.length_pos_iff.2 hr
     unfold nRd
     omega
    simp (maxDischargeDepth := 8) only [sA, sM, zb, zo, zm, zk, za, ze, Cells.get, getN, Nat.reduceAdd, zh, zg, DS.wrC, Cells.size, Cells.fillFrom, Cells.set, zA, ldA, DS.read, Cells.take, Nat.reduceLT, hB2, hC2, w2, G2, l1, l2, e1]
    exact hQ _ ⟨V _ _ _, .inl ⟨fun h => hr h.2, rfl⟩⟩
end
end Go.Dx.TbA
