/- A part. -/
import Derived.Test.YthmgnfeljhdioaaGreatP1Tab
set_option linter.unusedVariables false
set_option linter.unusedSimpArgs false
set_option linter.unusedSectionVars false
set_option maxRecDepth 100000
set_option maxHeartbeats 4000000
namespace Go.Dx.TbA
open Go Go.Dx Go.Dx.Tab Go.Proofs.YthmgnfeljhdioaaGreat
structure PM (E : Env) : Prop where
 fbyte : E.fn 54 = some d54
 ibyte : E.intr 54 = none
 fint : E.fn 55 = some d55
 iint : E.intr 55 = none
 fII : E.fn 53 = some d53
 iII : E.intr 53 = none
 fII1 : E.fn 82 = some d82
 iII1 : E.intr 82 = none
 fHB : E.fn 61 = some d61
 iHB : E.intr 61 = none
 fHB1 : E.fn 98 = some d98
 iHB1 : E.intr 98 = none
 fIH : E.fn 63 = some d63
 iIH : E.intr 63 = none
 fIH1 : E.fn 103 = some d103
 iIH1 : E.intr 103 = none
 fTT : E.fn 60 = some d60
 iTT : E.intr 60 = none
 fTT1 : E.fn 96 = some d96
 iTT1 : E.intr 96 = none
 fflag : E.fn 62 = some d62
 iflag : E.intr 62 = none
 fflag1 : E.fn 101 = some d101
 iflag1 : E.intr 101 = none
 fturn : E.fn 100 = some d100
 iturn : E.intr 100 = none
 fturn1 : E.fn 124 = some d124
 iturn1 : E.intr 124 = none
 fclip : E.fn 51 = some d51
 iclip : E.intr 51 = none
 fEnc : E.fn 28 = some d28
 iEnc : E.intr 28 = none
 fform : E.fn 29 = some d29
 iform : E.intr 29 = none
 fRep : E.fn 8 = some d8
 iRep : E.intr 8 = none
 fr : ∀ d, zG (dcall E d)
abbrev Told := ((Int × Int) × Bool) × (Int × (Int × Int))
def G8 : Nat → DS → Value → Int × Int → Prop := Yv Jg Jg
theorem XX : Zu G8 := Wk Yj Yj
theorem WR : ∀ (o : Nat) (s : DS) (v : Value) (x : Int × Int), G8 o s v x → ∃ n1 n2, v = .agg ⟨[.int .i64 n1, .int .i64 n2]⟩ := fun o s v x ⟨a, b, e, h1, h2⟩ => by
 have h1 : a = .int .i64 x.1 := h1
 have h2 : b = .int .i64 x.2 := h2
 subst h1 h2
 exact ⟨_, _, e⟩
def Re : Nat → DS → Value → (Int × Int) × Bool → Prop := Yv G8 P1
theorem G9 : Zu Re := Wk XX CI
theorem Rc : ∀ (o : Nat) (s : DS) (v : Value) (x : (Int × Int) × Bool), Re o s v x → ∃ n1 n2 n3, v = .agg ⟨[.int .i64 n1, .int .i64 n2, .bool n3]⟩ := fun o s v x ⟨a, b, e, h1, h2⟩ => by
 obtain ⟨n1, n2, rfl⟩ := WR _ _ _ _ h1
 have h2 : b = .bool x.2 := h2
 subst h2
 exact ⟨_, _, _, e⟩
def S9 : Nat → DS → Value → Int × (Int × Int) → Prop := Yv Jg G8
theorem GZ : Zu S9 := Wk Yj XX
theorem SZ : ∀ (o : Nat) (s : DS) (v : Value) (x : Int × (Int × Int)), S9 o s v x → ∃ n1 n2 n3, v = .agg ⟨[.int .i64 n1, .int .i64 n2, .int .i64 n3]⟩ := fun o s v x ⟨a, b, e, h1, h2⟩ => by
 obtain ⟨n1, n2, rfl⟩ := WR _ _ _ _ h2
 have h1 : a = .int .i64 x.1 := h1
 subst h1
 exact ⟨_, _, _, e⟩
def CH : Nat → DS → Value → Told → Prop := Yv Re S9
theorem SX : Zu CH := Wk G9 GZ
def MQ (x : Told) : Prop := ((Xk 1 255 x.1.1.1 ∧ Xk 8 0 x.1.1.2) ∧ True) ∧ (Xk 1 255 x.2.1 ∧ (Xk 8 0 x.2.2.1 ∧ Xk 8 0 x.2.2.2))
def JK (x : Told) : List Int := ((leB x.1.1.1 1 ++ leB x.1.1.2 8) ++ Qk x.1.2) ++ (leB x.2.1 1 ++ (leB x.2.2.1 8 ++ leB x.2.2.2 8))
section
variable {E : Env} (hC : Ja E) (hT : GD E) (hE : PM E) {s s' : DS} {d : Nat} {t m clock : Nat} {M : TRs}
include hT
theorem Gg (hG : s.Good) (r : Rp) : W (dcall E (d + 3) (.func (.func 27) #[] #[]) [.agg ⟨r.cells⟩] s) fun x => x.1 = .bool (decide (ZE r)) ∧ Ext [] s x.2 := by
 refine zp fun Q hQ => ?_
 rw [zj hT.imayR hT.fmayR rfl]
 have hwho : ∀ S, dcall E (d + 2) (.func (.func 30) #[] #[]) [.int .i64 r.c, .int .i64 r.n] S = some (.bool (decide (Who r.c r.n)), S) := fun S => Sv hT r.c r.n
 have hin1 : ∀ S, dcall E (d + 2) (.func (.func 31) #[] #[]) [.int .i64 r.trap, .int .i64 0, .int .i64 6] S = some (.bool (decide (0 ≤ r.trap ∧ r.trap ≤ 6)), S) := fun S => XV hT (d := d + 1) r.trap 0 6
 have hin2 : ∀ S, dcall E (d + 2) (.func (.func 31) #[] #[]) [.int .i64 r.gas, .int .i64 0, .int .i64 1048576] S = some (.bool (decide (0 ≤ r.gas ∧ r.gas ≤ 1048576)), S) := fun S => XV hT (d := d + 1) r.gas 0 1048576
 have h1 : True := trivial
 cases hrej : r.rej with
 | false =>
  have hnr : ¬ (r.rej = true ∧ (r.trap ≠ 0 ∨ r.v ≠ 0 ∨ r.gas ≠ 0)) := fun h => by rw [hrej] at h; cases h.1
  simp (maxDischargeDepth := 8) only [sA, sM, zb, Cells.get, getN, pp, pv, pw, pg, Nat.reduceLT, d27, hG, Rp.cells, hrej]
  cases hw : decide (Who r.c r.n) with
  | false =>
   have hno : ¬ ZE r := fun h => by rw [decide_eq_true h.2.1] at hw; cases hw
   rw [decide_eq_false hno] at hQ
   rw [hw] at hwho
   simp (maxDischargeDepth := 8) only [sA, sM, zb, za, ze, Nat.reduceLT, hG, hrej, h1, hwho]
   exact hQ _ ⟨rfl, Ext.new⟩
  | true =>
   rw [hw] at hwho
   by_cases c1 : 0 ≤ r.trap ∧ r.trap ≤ 6
   · rw [decide_eq_true c1] at hin1
     by_cases c2 : 0 ≤ r.gas ∧ r.gas ≤ 1048576
     · rw [decide_eq_true c2] at hin2
       have hyes : ZE r := ⟨hnr, of_decide_eq_true hw, c1.1, c1.2, c2.1, c2.2⟩
       rw [decide_eq_true hyes] at hQ
       simp (maxDischargeDepth := 8) only [sA, sM, zb, za, ze, Cells.get, getN, Nat.reduceLT, hG, hrej, h1, hwho, hin1, hin2]
       exact hQ _ ⟨rfl, Ext.new⟩
     · rw [decide_eq_false c2] at hin2
       have hno : ¬ ZE r := fun h => c2 ⟨h.2.2.2.2.1, h.2.2.2.2.2⟩
       rw [decide_eq_false hno] at hQ
       simp (maxDischargeDepth := 8) only [sA, sM, zb, za, ze, Cells.get, getN, Nat.reduceLT, hG, hrej, h1, hwho, hin1, hin2]
       exact hQ _ ⟨rfl, Ext.new⟩
   · rw [decide_eq_false c1] at hin1
     have hno : ¬ ZE r := fun h => c1 ⟨h.2.2.1, h.2.2.2.1⟩
     rw [decide_eq_false hno] at hQ
     simp (maxDischargeDepth := 8) only [sA, sM, zb, za, ze, Cells.get, getN, Nat.reduceLT, hG, hrej, h1, hwho, hin1]
     exact hQ _ ⟨rfl, Ext.new⟩
 | true =>
  by_cases a1 : r.trap = 0
  · by_cases a2 : r.v = 0
    · by_cases a3 : r.gas = 0
      · have hnr : ¬ (r.rej = true ∧ (r.trap ≠ 0 ∨ r.v ≠ 0 ∨ r.gas ≠ 0)) := fun h => by rcases h.2 with h | h | h <;> contradiction
        have e1 : decide (0 ≤ r.trap ∧ r.trap ≤ 6) = true := decide_eq_true (by omega)
        have e2 : decide (0 ≤ r.gas ∧ r.gas ≤ 1048576) = true := decide_eq_true (by omega)
        rw [e1, a1] at hin1
        rw [e2, a3] at hin2
        cases hw : decide (Who r.c r.n) with
        | false =>
         have hno : ¬ ZE r := fun h => by rw [decide_eq_true h.2.1] at hw; cases hw
         rw [decide_eq_false hno] at hQ
         rw [hw] at hwho
         simp (maxDischargeDepth := 8) only [sA, sM, zb, zo, zm, za, ze, Cells.get, getN, pp, pv, pw, pg, Nat.reduceLT, d27, hG, Rp.cells, hrej, a1, a2, a3, hwho]
         exact hQ _ ⟨rfl, Ext.new⟩
        | true =>
         rw [hw] at hwho
         have hyes : ZE r := ⟨hnr, of_decide_eq_true hw, by omega, by omega, by omega, by omega⟩
         rw [decide_eq_true hyes] at hQ
         simp (maxDischargeDepth := 8) only [sA, sM, zb, zo, zm, za, ze, Cells.get, getN, pp, pv, pw, pg, Nat.reduceLT, d27, hG, Rp.cells, hrej, a1, a2, a3, hwho, hin1, hin2]
         exact hQ _ ⟨rfl, Ext.new⟩
      · have hno : ¬ ZE r := fun h => h.1 ⟨hrej, .inr (.inr a3)⟩
        simp (maxDischargeDepth := 8) only [sA, sM, zb, zo, zm, za, ze, Cells.get, getN, pp, pv, pw, pg, Nat.reduceLT, d27, hG, Rp.cells, hrej, a1, a2, a3]
        rw [decide_eq_false hno] at hQ
        exact hQ _ ⟨rfl, Ext.new⟩
    · have hno : ¬ ZE r := fun h => h.1 ⟨hrej, .inr (.inl a2)⟩
      simp (maxDischargeDepth := 8) only [sA, sM, zb, zo, zm, za, ze, Cells.get, getN, pp, pv, pw, pg, Nat.reduceLT, d27, hG, Rp.cells, hrej, a1, a2]
      rw [decide_eq_false hno] at hQ
      exact hQ _ ⟨rfl, Ext.new⟩
  · have hno : ¬ ZE r := fun h => h.1 ⟨hrej, .inl a1⟩
    simp (maxDischargeDepth := 8) only [sA, sM, zb, zo, zm, za, ze, Cells.get, getN, pp, pv, pw, pg, Nat.reduceLT, d27, hG, Rp.cells, hrej, a1]
    rw [decide_eq_false hno] at hQ
    exact hQ _ ⟨rfl, Ext.new⟩
include hC hE
theorem Nu (hG : s.Good) : W (dcall E (d + 3) (.func (.func 29) #[] #[]) [] s) fun r => zz E 6 s.next r.2 r.1 CH MQ JK ∧ Ext [] s r.2 := by
 refine zp fun Q hQ => ?_
 rw [zj hE.iform hE.fform rfl]
 simp (maxDischargeDepth := 8) only [sA, pp, d29, hG]
 have h0 : ∀ o, (s.new o).get s.next = some o := fun o => DS.new_get_self hG
 have w0 : (s.new (.cells (.list [.nilFunc, .nilFunc]) false)).wr s.next = true := (hG _ (Nat.le_refl _)).2
 refine W.mono (WV hC (m := s.next + 1) (DS.new_good hG) (Nat.le_refl _) hE.fbyte hE.ibyte) ?_
 rintro ⟨v1, s1⟩ ⟨q1, X1⟩
 simp only at q1 X1
 have hG1 := X1.good (DS.new_good hG)
 have l1 : s.next + 1 ≤ s1.next := X1.le
 simp only [sA]
 refine W.mono (Ys hC (m := s.next + 1) hG1 l1 hE.fint hE.iint) ?_
 rintro ⟨v2, s2⟩ ⟨q2, X2⟩
 simp only at q2 X2
 have hG2 := X2.good hG1
 have l2 := Nat.le_trans l1 X2.le
 simp only [sA, Nat.reduceEqDiff]
 refine W.mono (Wv hC l2 hG2 (q1.keep X2) q2 hE.fII hE.iII fun ha hb => QD hC ha hb Yj Yj (fun _ _ _ x h => ⟨x, h⟩) (fun _ _ _ x h => ⟨x, h⟩) hE.fII1 hE.iII1) ?_
 rintro ⟨v3, s3⟩ ⟨q3, X3⟩
 simp only at q3 X3
 have hG3 := X3.good hG2
 have l3 := Nat.le_trans l2 X3.le
 simp only [sA]
 refine W.mono (D6 hC hG3 l3 hE.fflag hE.iflag hE.fturn hE.iturn hE.fturn1 hE.iturn1 hE.fflag1 hE.iflag1 hE.fr) ?_
 rintro ⟨v4, s4⟩ ⟨q4, X4⟩
 simp only at q4 X4
 have hG4 := X4.good hG3
 have l4 := Nat.le_trans l3 X4.le
 simp only [sA, Nat.reduceEqDiff]
 refine W.mono (Gt hC l4 hG4 (q3.keep X4) q4 hE.fHB hE.iHB fun ha hb => Cf hC ha hb XX CI WR (fun _ _ _ x h => ⟨x, h⟩) hE.fHB1 hE.iHB1) ?_
 rintro ⟨v5, s5⟩ ⟨q5, X5⟩
 simp only at q5 X5
 have hG5 := X5.good hG4
 have l5 := Nat.le_trans l4 X5.le
 simp only [sA]
 refine W.mono (WV hC (m := s.next + 1) hG5 l5 hE.fbyte hE.ibyte) ?_
 rintro ⟨v6, s6⟩ ⟨q6, X6⟩
 simp only at q6 X6
 have hG6 := X6.good hG5
 have l6 := Nat.le_trans l5 X6.le
 simp only [sA]
 refine W.mono (Ys hC (m := s.next + 1) hG6 l6 hE.fint hE.iint) ?_
 rintro ⟨v7, s7⟩ ⟨q7, X7⟩
 simp only at q7 X7
 have hG7 := X7.good hG6
 have l7 := Nat.le_trans l6 X7.le
 simp only [sA]
 refine W.mono (Ys hC (m := s.next + 1) hG7 l7 hE.fint hE.iint) ?_
 rintro ⟨v8, s8⟩ ⟨q8, X8⟩
 simp only at q8 X8
 have hG8 := X8.good hG7
 have l8 := Nat.le_trans l7 X8.le
 simp only [sA, Nat.reduceEqDiff]
 refine W.mono (Wv hC l8 hG8 (q7.keep X8) q8 hE.fII hE.iII fun ha hb => QD hC ha hb Yj Yj (fun _ _ _ x h => ⟨x, h⟩) (fun _ _ _ x h => ⟨x, h⟩) hE.fII1 hE.iII1) ?_
 rintro ⟨v9, s9⟩ ⟨q9, X9⟩
 simp only at q9 X9
 have hG9 := X9.good hG8
 have l9 := Nat.le_trans l8 X9.le
 simp only [sA, Nat.reduceEqDiff]
 refine W.mono (Gs hC l9 hG9 ((q6.keep (X7.trans' (X8.trans' X9))).mono (show 3 ≤ 4 by omega)) q9 hE.fIH hE.iIH fun ha hb => Cd hC ha hb Yj XX (fun _ _ _ x h => ⟨x, h⟩) WR hE.fIH1 hE.iIH1) ?_
 rintro ⟨va, sa⟩ ⟨qa, Xa⟩
 simp only at qa Xa
 have hGa := Xa.good hG9
 have la := Nat.le_trans l9 Xa.le
 have X5a := X6.trans' (X7.trans' (X8.trans' (X9.trans' Xa)))
 simp only [sA, Nat.reduceEqDiff]
 refine W.mono (Gu hC la hGa (q5.keep X5a) qa hE.fTT hE.iTT fun ha hb => Ch hC ha hb G9 GZ Rc SZ hE.fTT1 hE.iTT1) ?_
 rintro ⟨vb, sb⟩ ⟨qb, Xb⟩
 simp only at qb Xb
 have X0b := (X1.trans' (X2.trans' (X3.trans' (X4.trans' X5)))).trans' (X5a.trans' Xb)
 have g6 := X0b.keep (h0 _) (by simp)
 have w6 := X0b.wrs w0
 obtain ⟨f, a, b, g, a', b', D, rfl, k2, k3, k4⟩ := qb
 simp (maxDischargeDepth := 8) only [sA, sM, zk, za, ze, Cells.get, getN, Nat.reduceAdd, zh, zg, DS.wrC, Cells.size, Cells.fillFrom, Cells.set, zA, DS.read, Cells.take, g6, w6]
 have XF : ∀ o, Ext [] s (sb.upd s.next o) := fun o => (Ext.new.trans' X0b).trans (Ext.upd (F := [s.next]) (.inl (by simp))) (by simp)
 refine hQ _ ⟨⟨f, a, b, g, a', b', D, rfl, fun p hp => ?_, fun p hp => ?_, k4⟩, XF _⟩
 · have := (k3 p hp).1
   simp (maxDischargeDepth := 8) only [sA, k2 p hp, show ¬ p.1 = s.next by omega]
 · have := k3 p hp
   simp (maxDischargeDepth := 8) only [DS.upd_next]
   omega
omit hT hC hE in
theorem Fo {s : DS} {nt : List Zw} {haz : List Nat} {k : Nat} : (YK s nt haz).wr k = (s.wr k && !hidden nt haz k && !shielded nt haz k) := Eq.trans rfl rfl
omit hT hC hE in
theorem Jr {s : DS} {nt : List Zw} {haz : List Nat} {k : Nat} {o : DObj} (h : hidden nt haz k = false) : Zi s ((YK s nt haz).upd k o) = s.upd k o := by
 unfold DS.upd
 rw [Zj h]
 split <;> rfl
end
end Go.Dx.TbA
