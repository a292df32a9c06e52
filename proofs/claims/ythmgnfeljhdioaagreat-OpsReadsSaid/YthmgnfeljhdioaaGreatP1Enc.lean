/- A part. -/
import Derived.Test.YthmgnfeljhdioaaGreatP1Tab
set_option linter.unusedVariables false
set_option linter.unusedSimpArgs false
set_option linter.unusedSectionVars false
set_option maxRecDepth 100000
set_option maxHeartbeats 4000000
namespace Go.Dx.TbA
open Go Go.Dx Go.Dx.Tab Go.Proofs.YthmgnfeljhdioaaGreat
structure N1 (E : Env) : Prop where
 fbyte : E.fn 54 = some d54
 ibyte : E.intr 54 = none
 fint : E.fn 55 = some d55
 iint : E.intr 55 = none
 fII : E.fn 53 = some d53
 iII : E.intr 53 = none
 fII1 : E.fn 82 = some d82
 iII1 : E.intr 82 = none
 fHB : E.fn 61 = some d61
 iHB : E.intr 61 = none
 fHB1 : E.fn 98 = some d98
 iHB1 : E.intr 98 = none
 fIH : E.fn 63 = some d63
 iIH : E.intr 63 = none
 fIH1 : E.fn 103 = some d103
 iIH1 : E.intr 103 = none
 fTT : E.fn 60 = some d60
 iTT : E.intr 60 = none
 fTT1 : E.fn 96 = some d96
 iTT1 : E.intr 96 = none
 fflag : E.fn 62 = some d62
 iflag : E.intr 62 = none
 fflag1 : E.fn 101 = some d101
 iflag1 : E.intr 101 = none
 fturn : E.fn 100 = some d100
 iturn : E.intr 100 = none
 fturn1 : E.fn 124 = some d124
 iturn1 : E.intr 124 = none
 fclip : E.fn 51 = some d51
 iclip : E.intr 51 = none
 fEnc : E.fn 28 = some d28
 iEnc : E.intr 28 = none
 fform : E.fn 29 = some d29
 iform : E.intr 29 = none
 fRep : E.fn 8 = some d8
 iRep : E.intr 8 = none
 fr : ∀ d, zB (dcall E d)
section
variable {E : Env} (hC : VO E) (hT : CO E) (hE : N1 E) {s s' : DS} {d : Nat} {t m clock : Nat} {M : TRs}
include hT
theorem Rt (hG : s.Good) (r : Rp) : W (dcall E (d + 3) (.func (.func 27) #[] #[]) [.agg ⟨r.cells⟩] s) fun x => x.1 = .bool (decide (ZQ r)) ∧ Ext [] s x.2 := by
 refine zD fun Q hQ => ?_
 rw [zn hT.imayR hT.fmayR rfl]
 have hwho : ∀ S, dcall E (d + 2) (.func (.func 30) #[] #[]) [.int .i64 r.c, .int .i64 r.n] S = some (.bool (decide (Who r.c r.n)), S) := fun S => C1 hT r.c r.n
 have hin1 : ∀ S, dcall E (d + 2) (.func (.func 31) #[] #[]) [.int .i64 r.trap, .int .i64 0, .int .i64 6] S = some (.bool (decide (0 ≤ r.trap ∧ r.trap ≤ 6)), S) := fun S => Xr hT (d := d + 1) r.trap 0 6
 have hin2 : ∀ S, dcall E (d + 2) (.func (.func 31) #[] #[]) [.int .i64 r.gas, .int .i64 0, .int .i64 1048576] S = some (.bool (decide (0 ≤ r.gas ∧ r.gas ≤ 1048576)), S) := fun S => Xr hT (d := d + 1) r.gas 0 1048576
 have h1 : True := trivial
 cases hrej : r.rej with
 | false =>
  have hnr : ¬ (r.rej = true ∧ (r.trap ≠ 0 ∨ r.v ≠ 0 ∨ r.gas ≠ 0)) := fun h => by rw [hrej] at h; cases h.1
  simp (maxDischargeDepth := 8) only [sA, sM, zc, Cells.get, getN, pp, pv, pw, pg, Nat.reduceLT, d27, hG, Rp.cells, hrej]
  cases hw : decide (Who r.c r.n) with
  | false =>
   have hno : ¬ ZQ r := fun h => by rw [decide_eq_true h.2.1] at hw; cases hw
   rw [decide_eq_false hno] at hQ
   rw [hw] at hwho
   simp (maxDischargeDepth := 8) only [sA, sM, zc, za, zf, Nat.reduceLT, hG, hrej, h1, hwho]
   exact hQ _ ⟨rfl, Ext.new⟩
  | true =>
   rw [hw] at hwho
   by_cases c1 : 0 ≤ r.trap ∧ r.trap ≤ 6
   · rw [decide_eq_true c1] at hin1
     by_cases c2 : 0 ≤ r.gas ∧ r.gas ≤ 1048576
     · rw [decide_eq_true c2] at hin2
       have hyes : ZQ r := ⟨hnr, of_decide_eq_true hw, c1.1, c1.2, c2.1, c2.2⟩
       rw [decide_eq_true hyes] at hQ
       simp (maxDischargeDepth := 8) only [sA, sM, zc, za, zf, Cells.get, getN, Nat.reduceLT, hG, hrej, h1, hwho, hin1, hin2]
       exact hQ _ ⟨rfl, Ext.new⟩
     · rw [decide_eq_false c2] at hin2
       have hno : ¬ ZQ r := fun h => c2 ⟨h.2.2.2.2.1, h.2.2.2.2.2⟩
       rw [decide_eq_false hno] at hQ
       simp (maxDischargeDepth := 8) only [sA, sM, zc, za, zf, Cells.get, getN, Nat.reduceLT, hG, hrej, h1, hwho, hin1, hin2]
       exact hQ _ ⟨rfl, Ext.new⟩
   · rw [decide_eq_false c1] at hin1
     have hno : ¬ ZQ r := fun h => c1 ⟨h.2.2.1, h.2.2.2.1⟩
     rw [decide_eq_false hno] at hQ
     simp (maxDischargeDepth := 8) only [sA, sM, zc, za, zf, Cells.get, getN, Nat.reduceLT, hG, hrej, h1, hwho, hin1]
     exact hQ _ ⟨rfl, Ext.new⟩
 | true =>
  by_cases a1 : r.trap = 0
  · by_cases a2 : r.v = 0
    · by_cases a3 : r.gas = 0
      · have hnr : ¬ (r.rej = true ∧ (r.trap ≠ 0 ∨ r.v ≠ 0 ∨ r.gas ≠ 0)) := fun h => by rcases h.2 with h | h | h <;> contradiction
        have e1 : decide (0 ≤ r.trap ∧ r.trap ≤ 6) = true := decide_eq_true (by omega)
        have e2 : decide (0 ≤ r.gas ∧ r.gas ≤ 1048576) = true := decide_eq_true (by omega)
        rw [e1, a1] at hin1
        rw [e2, a3] at hin2
        cases hw : decide (Who r.c r.n) with
        | false =>
         have hno : ¬ ZQ r := fun h => by rw [decide_eq_true h.2.1] at hw; cases hw
         rw [decide_eq_false hno] at hQ
         rw [hw] at hwho
         simp (maxDischargeDepth := 8) only [sA, sM, zc, zp, zl, za, zf, Cells.get, getN, pp, pv, pw, pg, Nat.reduceLT, d27, hG, Rp.cells, hrej, a1, a2, a3, hwho]
         exact hQ _ ⟨rfl, Ext.new⟩
        | true =>
         rw [hw] at hwho
         have hyes : ZQ r := ⟨hnr, of_decide_eq_true hw, by omega, by omega, by omega, by omega⟩
         rw [decide_eq_true hyes] at hQ
         simp (maxDischargeDepth := 8) only [sA, sM, zc, zp, zl, za, zf, Cells.get, getN, pp, pv, pw, pg, Nat.reduceLT, d27, hG, Rp.cells, hrej, a1, a2, a3, hwho, hin1, hin2]
         exact hQ _ ⟨rfl, Ext.new⟩
      · have hno : ¬ ZQ r := fun h => h.1 ⟨hrej, .inr (.inr a3)⟩
        simp (maxDischargeDepth := 8) only [sA, sM, zc, zp, zl, za, zf, Cells.get, getN, pp, pv, pw, pg, Nat.reduceLT, d27, hG, Rp.cells, hrej, a1, a2, a3]
        rw [decide_eq_false hno] at hQ
        exact hQ _ ⟨rfl, Ext.new⟩
    · have hno : ¬ ZQ r := fun h => h.1 ⟨hrej, .inr (.inl a2)⟩
      simp (maxDischargeDepth := 8) only [sA, sM, zc, zp, zl, za, zf, Cells.get, getN, pp, pv, pw, pg, Nat.reduceLT, d27, hG, Rp.cells, hrej, a1, a2]
      rw [decide_eq_false hno] at hQ
      exact hQ _ ⟨rfl, Ext.new⟩
  · have hno : ¬ ZQ r := fun h => h.1 ⟨hrej, .inl a1⟩
    simp (maxDischargeDepth := 8) only [sA, sM, zc, zp, zl, za, zf, Cells.get, getN, pp, pv, pw, pg, Nat.reduceLT, d27, hG, Rp.cells, hrej, a1]
    rw [decide_eq_false hno] at hQ
    exact hQ _ ⟨rfl, Ext.new⟩
include hC hE
end
end Go.Dx.TbA
