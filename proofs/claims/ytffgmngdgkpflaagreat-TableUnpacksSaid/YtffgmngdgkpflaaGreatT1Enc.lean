/- A part. -/
import Derived.Test.YtffgmngdgkpflaaGreatT1Tab
set_option linter.unusedVariables false
set_option linter.unusedSimpArgs false
set_option linter.unusedSectionVars false
set_option maxRecDepth 100000
set_option maxHeartbeats 4000000
namespace Go.Dx.TbA
open Go Go.Dx Go.Dx.Tab Go.Proofs.YtffgmngdgkpflaaGreat
structure PX (E : Env) : Prop where
 fbyte : E.fn 49 = some d49
 ibyte : E.intr 49 = none
 fint : E.fn 50 = some d50
 iint : E.intr 50 = none
 fII : E.fn 48 = some d48
 iII : E.intr 48 = none
 fII1 : E.fn 83 = some d83
 iII1 : E.intr 83 = none
 fHB : E.fn 102 = some d102
 iHB : E.intr 102 = none
 fHB1 : E.fn 121 = some d121
 iHB1 : E.intr 121 = none
 fIH : E.fn 103 = some d103
 iIH : E.intr 103 = none
 fIH1 : E.fn 123 = some d123
 iIH1 : E.intr 123 = none
 fTT : E.fn 101 = some d101
 iTT : E.intr 101 = none
 fTT1 : E.fn 119 = some d119
 iTT1 : E.intr 119 = none
 fflag : E.fn 52 = some d52
 iflag : E.intr 52 = none
 fflag1 : E.fn 88 = some d88
 iflag1 : E.intr 88 = none
 fturn : E.fn 87 = some d87
 iturn : E.intr 87 = none
 fturn1 : E.fn 116 = some d116
 iturn1 : E.intr 116 = none
 fclip : E.fn 67 = some d67
 iclip : E.intr 67 = none
 fEnc : E.fn 65 = some d65
 iEnc : E.intr 65 = none
 fform : E.fn 66 = some d66
 iform : E.intr 66 = none
 fRep : E.fn 35 = some d35
 iRep : E.intr 35 = none
 fr : ∀ d, ZR (dcall E d)
abbrev Told := ((Int × Int) × Bool) × (Int × (Int × Int))
def CK : Nat → DS → Value → Int × Int → Prop := W9 F3 F3
theorem Q8 : Xe CK := J8 WW WW
theorem JN : ∀ (o : Nat) (s : DS) (v : Value) (x : Int × Int), CK o s v x → ∃ n1 n2, v = .agg ⟨[.int .i64 n1, .int .i64 n2]⟩ := fun o s v x ⟨a, b, e, h1, h2⟩ => by
 have h1 : a = .int .i64 x.1 := h1
 have h2 : b = .int .i64 x.2 := h2
 subst h1 h2
 exact ⟨_, _, e⟩
def NN : Nat → DS → Value → (Int × Int) × Bool → Prop := W9 CK NQ
theorem CL : Xe NN := J8 Q8 Gh
theorem NM : ∀ (o : Nat) (s : DS) (v : Value) (x : (Int × Int) × Bool), NN o s v x → ∃ n1 n2 n3, v = .agg ⟨[.int .i64 n1, .int .i64 n2, .bool n3]⟩ := fun o s v x ⟨a, b, e, h1, h2⟩ => by
 obtain ⟨n1, n2, rfl⟩ := JN _ _ _ _ h1
 have h2 : b = .bool x.2 := h2
 subst h2
 exact ⟨_, _, _, e⟩
def NL : Nat → DS → Value → Int × (Int × Int) → Prop := W9 F3 CK
theorem CJ : Xe NL := J8 WW Q8
theorem NK : ∀ (o : Nat) (s : DS) (v : Value) (x : Int × (Int × Int)), NL o s v x → ∃ n1 n2 n3, v = .agg ⟨[.int .i64 n1, .int .i64 n2, .int .i64 n3]⟩ := fun o s v x ⟨a, b, e, h1, h2⟩ => by
 obtain ⟨n1, n2, rfl⟩ := JN _ _ _ _ h2
 have h1 : a = .int .i64 x.1 := h1
 subst h1
 exact ⟨_, _, _, e⟩
def SW : Nat → DS → Value → Told → Prop := W9 NN NL
theorem NJ : Xe SW := J8 CL CJ
def HF (x : Told) : Prop := ((Jb 1 255 x.1.1.1 ∧ Jb 8 0 x.1.1.2) ∧ True) ∧ (Jb 1 255 x.2.1 ∧ (Jb 8 0 x.2.2.1 ∧ Jb 8 0 x.2.2.2))
def FC (x : Told) : List Int := ((leB x.1.1.1 1 ++ leB x.1.1.2 8) ++ QG x.1.2) ++ (leB x.2.1 1 ++ (leB x.2.2.1 8 ++ leB x.2.2.2 8))
section
variable {E : Env} (hC : KQ E) (hT : FQ E) (hE : PX E) {s s' : DS} {d : Nat} {t m clock : Nat} {M : TRs}
include hT
theorem Ro (hG : s.Good) (r : Rp) : W (dcall E (d + 3) (.func (.func 64) #[] #[]) [.agg ⟨r.cells⟩] s) fun x => x.1 = .bool (decide (Xi r)) ∧ Ext [] s x.2 := by
 refine Zh fun Q hQ => ?_
 rw [zP hT.imayR hT.fmayR rfl]
 have hwho : ∀ S, dcall E (d + 2) (.func (.func 99) #[] #[]) [.int .i64 r.c, .int .i64 r.n] S = some (.bool (decide (Who r.c r.n)), S) := fun S => P7 hT r.c r.n
 have hin1 : ∀ S, dcall E (d + 2) (.func (.func 100) #[] #[]) [.int .i64 r.trap, .int .i64 0, .int .i64 6] S = some (.bool (decide (0 ≤ r.trap ∧ r.trap ≤ 6)), S) := fun S => Q4 hT (d := d + 1) r.trap 0 6
 have hin2 : ∀ S, dcall E (d + 2) (.func (.func 100) #[] #[]) [.int .i64 r.gas, .int .i64 0, .int .i64 1048576] S = some (.bool (decide (0 ≤ r.gas ∧ r.gas ≤ 1048576)), S) := fun S => Q4 hT (d := d + 1) r.gas 0 1048576
 have h1 : True := trivial
 cases hrej : r.rej with
 | false =>
  have hnr : ¬ (r.rej = true ∧ (r.trap ≠ 0 ∨ r.v ≠ 0 ∨ r.gas ≠ 0)) := fun h => by rw [hrej] at h; cases h.1
  simp (maxSteps := 4000000) (maxDischargeDepth := 8) only [zq, zg, zD, zO, za, zf, zl, zo, Zm, Zv, zt, ze, zr, zj, zK, zR, zF, z9, ZA, zB, zp, zi, zm, zA, zd, zb, zc, z0, zh, List.getElem?_cons_zero, z1, z4, z5, zG, Cells.get, getN, Nat.zero_add, zx, if_false, z3, List.nil_append, pp, pv, pw, pg, zQ, Nat.add_zero, YH, zk, zJ, Nat.reduceLT, Nat.lt_add_one, d64, hG, Rp.cells, hrej]
  cases hw : decide (Who r.c r.n) with
  | false =>
   have hno : ¬ Xi r := fun h => by rw [decide_eq_true h.2.1] at hw; cases hw
   rw [decide_eq_false hno] at hQ
   rw [hw] at hwho
   simp (maxSteps := 4000000) (maxDischargeDepth := 8) only [zI, za, zf, zl, zo, Zm, Zv, ze, zr, zj, zK, zR, zp, zu, zi, zm, zd, zb, zc, z0, z1, zn, zy, if_false, z3, List.nil_append, zQ, zJ, Nat.reduceLT, Nat.lt_add_one, hG, hrej, h1, hwho]
   exact hQ _ ⟨rfl, Ext.new⟩
  | true =>
   rw [hw] at hwho
   by_cases c1 : 0 ≤ r.trap ∧ r.trap ≤ 6
   · rw [decide_eq_true c1] at hin1
     by_cases c2 : 0 ≤ r.gas ∧ r.gas ≤ 1048576
     · rw [decide_eq_true c2] at hin2
       have hyes : Xi r := ⟨hnr, of_decide_eq_true hw, c1.1, c1.2, c2.1, c2.2⟩
       rw [decide_eq_true hyes] at hQ
       simp (maxSteps := 4000000) (maxDischargeDepth := 8) only [zI, za, zf, zl, zo, Zm, Za, ze, zr, zj, zK, zR, zF, z9, zB, zp, zu, zi, zm, zA, zd, zb, zc, z0, z1, zn, zy, z4, z5, zG, Cells.get, getN, Nat.zero_add, if_true, zk, zJ, Nat.reduceLT, Nat.lt_add_one, hG, hrej, h1, hwho, hin1, hin2]
       exact hQ _ ⟨rfl, Ext.new⟩
     · rw [decide_eq_false c2] at hin2
       have hno : ¬ Xi r := fun h => c2 ⟨h.2.2.2.2.1, h.2.2.2.2.2⟩
       rw [decide_eq_false hno] at hQ
       simp (maxSteps := 4000000) (maxDischargeDepth := 8) only [zI, za, zf, zl, zo, Zm, Za, ze, zr, zj, zK, zR, zF, z9, zB, zp, zu, zi, zm, zA, zd, zb, zc, z0, z1, zn, zy, z4, z5, zG, Cells.get, getN, Nat.zero_add, if_true, zk, zJ, Nat.reduceLT, Nat.lt_add_one, hG, hrej, h1, hwho, hin1, hin2]
       exact hQ _ ⟨rfl, Ext.new⟩
   · rw [decide_eq_false c1] at hin1
     have hno : ¬ Xi r := fun h => c1 ⟨h.2.2.1, h.2.2.2.1⟩
     rw [decide_eq_false hno] at hQ
     simp (maxSteps := 4000000) (maxDischargeDepth := 8) only [zI, za, zf, zl, zo, Zm, Za, Zv, ze, zr, zj, zK, zR, zF, z9, zB, zp, zu, zi, zm, zA, zd, zb, zc, z0, z1, zn, zy, z4, z5, zG, Cells.get, getN, Nat.zero_add, if_true, if_false, z3, List.nil_append, zQ, zk, zJ, Nat.reduceLT, Nat.lt_add_one, hG, hrej, h1, hwho, hin1]
     exact hQ _ ⟨rfl, Ext.new⟩
 | true =>
  by_cases a1 : r.trap = 0
  · by_cases a2 : r.v = 0
    · by_cases a3 : r.gas = 0
      · have hnr : ¬ (r.rej = true ∧ (r.trap ≠ 0 ∨ r.v ≠ 0 ∨ r.gas ≠ 0)) := fun h => by rcases h.2 with h | h | h <;> contradiction
        have e1 : decide (0 ≤ r.trap ∧ r.trap ≤ 6) = true := decide_eq_true (by omega)
        have e2 : decide (0 ≤ r.gas ∧ r.gas ≤ 1048576) = true := decide_eq_true (by omega)
        rw [e1, a1] at hin1
        rw [e2, a3] at hin2
        cases hw : decide (Who r.c r.n) with
        | false =>
         have hno : ¬ Xi r := fun h => by rw [decide_eq_true h.2.1] at hw; cases hw
         rw [decide_eq_false hno] at hQ
         rw [hw] at hwho
         simp (maxSteps := 4000000) (maxDischargeDepth := 8) only [zq, zg, zD, zO, zI, za, zf, zl, zo, Zm, Za, Zv, zY, zt, ze, zr, zj, zK, zR, zV, zF, z9, ZA, zB, zp, Zc, zX, zu, zi, zm, zA, zd, zb, zc, z0, zh, List.getElem?_cons_zero, z1, zn, zy, z4, z5, zG, Cells.get, getN, Nat.zero_add, zx, if_true, if_false, Bool.not_true, z3, List.nil_append, pp, pv, pw, pg, zQ, Nat.add_zero, decide_true, zk, zJ, Nat.reduceLT, Nat.lt_add_one, d64, hG, Rp.cells, hrej, a1, a2, a3, hwho]
         exact hQ _ ⟨rfl, Ext.new⟩
        | true =>
         rw [hw] at hwho
         have hyes : Xi r := ⟨hnr, of_decide_eq_true hw, by omega, by omega, by omega, by omega⟩
         rw [decide_eq_true hyes] at hQ
         simp (maxSteps := 4000000) (maxDischargeDepth := 8) only [zq, zg, zD, zO, zI, za, zf, zl, zo, Zm, Za, zY, zt, ze, zr, zj, zK, zR, zV, zF, z9, ZA, zB, zp, Zc, zX, zu, zi, zm, zA, zd, zb, zc, z0, zh, List.getElem?_cons_zero, z1, zn, zy, z4, z5, zG, Cells.get, getN, Nat.zero_add, zx, if_true, if_false, Bool.not_true, z3, pp, pv, pw, pg, Nat.add_zero, decide_true, zk, zJ, Nat.reduceLT, Nat.lt_add_one, d64, hG, Rp.cells, hrej, a1, a2, a3, hwho, hin1, hin2]
         exact hQ _ ⟨rfl, Ext.new⟩
      · have hno : ¬ Xi r := fun h => h.1 ⟨hrej, .inr (.inr a3)⟩
        simp (maxSteps := 4000000) (maxDischargeDepth := 8) only [zq, zg, zD, zI, za, Zf, zf, zl, zo, Zm, Za, zY, zN, ze, zr, zj, zK, zR, zV, zF, z9, ZA, zp, Zc, zX, zu, zi, zm, zd, zb, zc, z0, zh, List.getElem?_cons_zero, z1, zn, zy, zG, Cells.get, getN, Nat.zero_add, zx, if_true, if_false, Bool.not_true, Bool.not_false, z3, pp, pv, pw, pg, decide_true, decide_false, zk, zJ, Nat.reduceLT, Nat.lt_add_one, d64, hG, Rp.cells, hrej, a1, a2, a3]
        rw [decide_eq_false hno] at hQ
        exact hQ _ ⟨rfl, Ext.new⟩
    · have hno : ¬ Xi r := fun h => h.1 ⟨hrej, .inr (.inl a2)⟩
      simp (maxSteps := 4000000) (maxDischargeDepth := 8) only [zq, zg, zD, zI, za, Zf, zf, zl, zo, Zm, Za, Yg, zY, zN, ze, zr, zj, zK, zR, zV, zF, z9, ZA, zp, Zc, zX, zu, zi, zm, zd, zb, zc, z0, zh, List.getElem?_cons_zero, z1, zn, zy, zG, Cells.get, getN, Nat.zero_add, zx, if_true, if_false, Bool.not_true, Bool.not_false, z3, List.nil_append, pp, pv, pw, pg, zQ, decide_true, decide_false, zk, zJ, Nat.reduceLT, Nat.lt_add_one, d64, hG, Rp.cells, hrej, a1, a2]
      rw [decide_eq_false hno] at hQ
      exact hQ _ ⟨rfl, Ext.new⟩
  · have hno : ¬ Xi r := fun h => h.1 ⟨hrej, .inl a1⟩
    simp (maxSteps := 4000000) (maxDischargeDepth := 8) only [zq, zg, zD, zI, za, Zf, zf, zl, zo, Zm, Za, Yg, zN, ze, zr, zj, zK, zR, zV, zF, z9, ZA, zp, Zc, zX, zu, zi, zm, zd, zb, zc, z0, zh, List.getElem?_cons_zero, z1, zn, zy, zG, Cells.get, getN, Nat.zero_add, zx, if_true, if_false, Bool.not_false, z3, List.nil_append, pp, pv, pw, pg, zQ, decide_false, zk, zJ, Nat.reduceLT, Nat.lt_add_one, d64, hG, Rp.cells, hrej, a1]
    rw [decide_eq_false hno] at hQ
    exact hQ _ ⟨rfl, Ext.new⟩
include hC hE
theorem Lv (hG : s.Good) : W (dcall E (d + 3) (.func (.func 66) #[] #[]) [] s) fun r => ZG E 6 s.next r.2 r.1 SW HF FC ∧ Ext [] s r.2 := by
 refine Zh fun Q hQ => ?_
 rw [zP hE.iform hE.fform rfl]
 simp (maxSteps := 4000000) (maxDischargeDepth := 8) only [zq, zg, za, zf, zl, zo, ze, zW, zB, zA, zd, z5, pp, d66, hG]
 have h0 : ∀ o, (s.new o).get s.next = some o := fun o => DS.new_get_self hG
 have w0 : (s.new (.cells (.list [.nilFunc, .nilFunc]) false)).wr s.next = true := (hG _ (Nat.le_refl _)).2
 refine W.mono (JQ hC (m := s.next + 1) (DS.new_good hG) (Nat.le_refl _) hE.fbyte hE.ibyte) ?_
 rintro ⟨v1, s1⟩ ⟨q1, X1⟩
 simp only at q1 X1
 have hG1 := X1.good (DS.new_good hG)
 have l1 : s.next + 1 ≤ s1.next := X1.le
 simp (maxSteps := 4000000) only [zo, ze, zB, zA, zd, z5]
 refine W.mono (QL hC (m := s.next + 1) hG1 l1 hE.fint hE.iint) ?_
 rintro ⟨v2, s2⟩ ⟨q2, X2⟩
 simp only at q2 X2
 have hG2 := X2.good hG1
 have l2 := Nat.le_trans l1 X2.le
 simp (maxSteps := 4000000) only [zo, ze, zB, zi, zA, zd, zb, zc, Nat.reduceEqDiff, z0, z1, z4, z5]
 refine W.mono (Jv hC l2 hG2 (q1.keep X2) q2 hE.fII hE.iII fun ha hb => KL hC ha hb WW WW (fun _ _ _ x h => ⟨x, h⟩) (fun _ _ _ x h => ⟨x, h⟩) hE.fII1 hE.iII1) ?_
 rintro ⟨v3, s3⟩ ⟨q3, X3⟩
 simp only at q3 X3
 have hG3 := X3.good hG2
 have l3 := Nat.le_trans l2 X3.le
 simp (maxSteps := 4000000) only [zo, ze, zB, zA, zd, z5]
 refine W.mono (Fv hC hG3 l3 hE.fflag hE.iflag hE.fturn hE.iturn hE.fturn1 hE.iturn1 hE.fflag1 hE.iflag1 hE.fr) ?_
 rintro ⟨v4, s4⟩ ⟨q4, X4⟩
 simp only at q4 X4
 have hG4 := X4.good hG3
 have l4 := Nat.le_trans l3 X4.le
 simp (maxSteps := 4000000) only [zo, ze, zB, zi, zA, zd, zb, zc, Nat.reduceEqDiff, z0, z1, z4, z5]
 refine W.mono (Da hC l4 hG4 (q3.keep X4) q4 hE.fHB hE.iHB fun ha hb => TD hC ha hb Q8 Gh JN (fun _ _ _ x h => ⟨x, h⟩) hE.fHB1 hE.iHB1) ?_
 rintro ⟨v5, s5⟩ ⟨q5, X5⟩
 simp only at q5 X5
 have hG5 := X5.good hG4
 have l5 := Nat.le_trans l4 X5.le
 simp (maxSteps := 4000000) only [zo, ze, zB, zA, zd, z5]
 refine W.mono (JQ hC (m := s.next + 1) hG5 l5 hE.fbyte hE.ibyte) ?_
 rintro ⟨v6, s6⟩ ⟨q6, X6⟩
 simp only at q6 X6
 have hG6 := X6.good hG5
 have l6 := Nat.le_trans l5 X6.le
 simp (maxSteps := 4000000) only [zo, ze, zB, zA, zd, z5]
 refine W.mono (QL hC (m := s.next + 1) hG6 l6 hE.fint hE.iint) ?_
 rintro ⟨v7, s7⟩ ⟨q7, X7⟩
 simp only at q7 X7
 have hG7 := X7.good hG6
 have l7 := Nat.le_trans l6 X7.le
 simp (maxSteps := 4000000) only [zo, ze, zB, zA, zd, z5]
 refine W.mono (QL hC (m := s.next + 1) hG7 l7 hE.fint hE.iint) ?_
 rintro ⟨v8, s8⟩ ⟨q8, X8⟩
 simp only at q8 X8
 have hG8 := X8.good hG7
 have l8 := Nat.le_trans l7 X8.le
 simp (maxSteps := 4000000) only [zo, ze, zB, zi, zA, zd, zb, zc, Nat.reduceEqDiff, z0, z1, z4, z5]
 refine W.mono (Jv hC l8 hG8 (q7.keep X8) q8 hE.fII hE.iII fun ha hb => KL hC ha hb WW WW (fun _ _ _ x h => ⟨x, h⟩) (fun _ _ _ x h => ⟨x, h⟩) hE.fII1 hE.iII1) ?_
 rintro ⟨v9, s9⟩ ⟨q9, X9⟩
 simp only at q9 X9
 have hG9 := X9.good hG8
 have l9 := Nat.le_trans l8 X9.le
 simp (maxSteps := 4000000) only [zo, ze, zB, zi, zA, zd, zb, zc, Nat.reduceEqDiff, z0, z1, z4, z5]
 refine W.mono (F9 hC l9 hG9 ((q6.keep (X7.trans' (X8.trans' X9))).mono (show 3 ≤ 4 by omega)) q9 hE.fIH hE.iIH fun ha hb => TB hC ha hb WW Q8 (fun _ _ _ x h => ⟨x, h⟩) JN hE.fIH1 hE.iIH1) ?_
 rintro ⟨va, sa⟩ ⟨qa, Xa⟩
 simp only at qa Xa
 have hGa := Xa.good hG9
 have la := Nat.le_trans l9 Xa.le
 have X5a := X6.trans' (X7.trans' (X8.trans' (X9.trans' Xa)))
 simp (maxSteps := 4000000) only [zo, ze, zB, zi, zA, zd, zb, zc, Nat.reduceEqDiff, z0, z1, z4, z5]
 refine W.mono (Db hC la hGa (q5.keep X5a) qa hE.fTT hE.iTT fun ha hb => TF hC ha hb CL CJ NM NK hE.fTT1 hE.iTT1) ?_
 rintro ⟨vb, sb⟩ ⟨qb, Xb⟩
 simp only at qb Xb
 have X0b := (X1.trans' (X2.trans' (X3.trans' (X4.trans' X5)))).trans' (X5a.trans' Xb)
 have g6 := X0b.keep (h0 _) (by simp)
 have w6 := X0b.wrs w0
 obtain ⟨f, a, b, g, a', b', D, rfl, k2, k3, k4⟩ := qb
 simp (maxSteps := 4000000) (maxDischargeDepth := 8) only [zI, za, zf, zl, zo, ze, zU, zj, Zx, zZ, zu, zi, zd, zE, zb, zc, z0, z1, zn, zy, Cells.get, getN, Nat.zero_add, Nat.reduceAdd, Zd, zx, List.length_cons, List.length_nil, zL, zH, Bool.and_self, Bool.and_true, Nat.beq_eq, Nat.ble_eq, Nat.le_refl, if_true, DS.wrC, Cells.size, Cells.fillFrom, Cells.set, Zb, DS.upd_get_self, Option.map_some, DS.read, Cells.take, zJ, Nat.lt_add_one, Nat.succ_pos, g6, w6]
 have XF : ∀ o, Ext [] s (sb.upd s.next o) := fun o => (Ext.new.trans' X0b).trans (Ext.upd (F := [s.next]) (.inl (by simp))) (by simp)
 refine hQ _ ⟨⟨f, a, b, g, a', b', D, rfl, fun p hp => ?_, fun p hp => ?_, k4⟩, XF _⟩
 · have := (k3 p hp).1
   simp (maxSteps := 4000000) (maxDischargeDepth := 8) only [z0, DS.upd_get_ne, k2 p hp, show ¬ p.1 = s.next by omega]
 · have := k3 p hp
   simp (maxSteps := 4000000) (maxDischargeDepth := 8) only [DS.upd_next]
   omega
omit hT hC hE in
theorem JS {s : DS} {nt : List YS} {haz : List Nat} {k : Nat} : (mask s nt haz).wr k = (s.wr k && !hidden nt haz k && !shielded nt haz k) := Eq.trans rfl rfl
omit hT hC hE in
theorem WY {s : DS} {nt : List YS} {haz : List Nat} {k : Nat} {o : DObj} (h : hidden nt haz k = false) : Ys s ((mask s nt haz).upd k o) = s.upd k o := by
 unfold DS.upd
 rw [Yf h]
 split <;> rfl
end
end Go.Dx.TbA
