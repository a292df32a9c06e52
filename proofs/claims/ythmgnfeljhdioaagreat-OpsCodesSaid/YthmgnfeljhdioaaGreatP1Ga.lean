/- A part. -/
import Derived.Test.YthmgnfeljhdioaaGreatP1Bo
import Derived.Test.YthmgnfeljhdioaaGreatP1Dp
import Derived.Test.YthmgnfeljhdioaaGreatDxF
import Derived.Test.YthmgnfeljhdioaaGreatP1Br
set_option linter.unusedVariables false
set_option linter.unusedSimpArgs false
set_option linter.unusedSectionVars false
set_option maxRecDepth 100000
set_option maxHeartbeats 4000000
namespace Go.Dx.TbA
open Go Go.Dx Go.Dx.Tab Go.Proofs.YthmgnfeljhdioaaGreat
section
variable {E : Env} {s : DS} {d : Nat}
theorem TS (hf : E.fn 11 = some d11) (hi : E.intr 11 = none) (hG : s.Good) (r : Rp) : W (dcall E (d + 1) (.func (.func 11) #[] #[]) [.agg ⟨r.cells⟩] s) fun x => x.1 = .bool (decide (ZE r)) ∧ Ext [] s x.2 := by
 refine zp fun Q hQ => ?_
 rw [zj hi hf rfl]
 cases hrej : r.rej with
 | false =>
  have hnr : ¬ (r.rej = true ∧ (r.trap ≠ 0 ∨ r.v ≠ 0 ∨ r.gas ≠ 0)) := fun h => by rw [hrej] at h; cases h.1
  by_cases c1 : 0 ≤ r.c
  · skip
    by_cases c2 : r.c ≤ 63
    · skip
      by_cases c3 : 1 ≤ r.n
      · skip
        by_cases c4 : r.n ≤ 1099511627776
        · skip
          by_cases c5 : 0 ≤ r.trap
          · skip
            by_cases c6 : r.trap ≤ 6
            · skip
              by_cases c7 : 0 ≤ r.gas
              · skip
                by_cases c8 : r.gas ≤ 1048576
                · skip
                  have hyes : ZE r := ⟨hnr, ⟨c1, c2, c3, c4⟩, c5, c6, c7, c8⟩
                  rw [decide_eq_true hyes] at hQ
                  simp (maxDischargeDepth := 8) only [sA, sM, zb, zo, zm, za, ze, Cells.get, getN, pp, pv, pw, pg, Nat.reduceLT, d11, hG, Rp.cells, hrej, c1, c2, c3, c4, c5, c6, c7, c8]
                  exact hQ _ ⟨rfl, Ext.new⟩
                · have hno : ¬ ZE r := fun h => c8 h.2.2.2.2.2
                  rw [decide_eq_false hno] at hQ
                  simp (maxDischargeDepth := 8) only [sA, sM, zb, zo, zm, za, ze, Cells.get, getN, pp, pv, pw, pg, Nat.reduceLT, d11, hG, Rp.cells, hrej, c1, c2, c3, c4, c5, c6, c7, c8]
                  exact hQ _ ⟨rfl, Ext.new⟩
              · have hno : ¬ ZE r := fun h => c7 h.2.2.2.2.1
                rw [decide_eq_false hno] at hQ
                simp (maxDischargeDepth := 8) only [sA, sM, zb, zo, zm, za, ze, Cells.get, getN, pp, pv, pw, pg, Nat.reduceLT, d11, hG, Rp.cells, hrej, c1, c2, c3, c4, c5, c6, c7]
                exact hQ _ ⟨rfl, Ext.new⟩
            · have hno : ¬ ZE r := fun h => c6 h.2.2.2.1
              rw [decide_eq_false hno] at hQ
              simp (maxDischargeDepth := 8) only [sA, sM, zb, zo, zm, za, ze, Cells.get, getN, pp, pv, pw, pg, Nat.reduceLT, d11, hG, Rp.cells, hrej, c1, c2, c3, c4, c5, c6]
              exact hQ _ ⟨rfl, Ext.new⟩
          · have hno : ¬ ZE r := fun h => c5 h.2.2.1
            rw [decide_eq_false hno] at hQ
            simp (maxDischargeDepth := 8) only [sA, sM, zb, zo, zm, za, ze, Cells.get, getN, pp, pv, pw, pg, Nat.reduceLT, d11, hG, Rp.cells, hrej, c1, c2, c3, c4, c5]
            exact hQ _ ⟨rfl, Ext.new⟩
        · have hno : ¬ ZE r := fun h => c4 h.2.1.2.2.2
          rw [decide_eq_false hno] at hQ
          simp (maxDischargeDepth := 8) only [sA, sM, zb, zo, zm, za, ze, Cells.get, getN, pp, pv, pw, pg, Nat.reduceLT, d11, hG, Rp.cells, hrej, c1, c2, c3, c4]
          exact hQ _ ⟨rfl, Ext.new⟩
      · have hno : ¬ ZE r := fun h => c3 h.2.1.2.2.1
        rw [decide_eq_false hno] at hQ
        simp (maxDischargeDepth := 8) only [sA, sM, zb, zo, zm, za, ze, Cells.get, getN, pp, pv, pw, pg, Nat.reduceLT, d11, hG, Rp.cells, hrej, c1, c2, c3]
        exact hQ _ ⟨rfl, Ext.new⟩
    · have hno : ¬ ZE r := fun h => c2 h.2.1.2.1
      rw [decide_eq_false hno] at hQ
      simp (maxDischargeDepth := 8) only [sA, sM, zb, zo, zm, za, ze, Cells.get, getN, pp, pv, pw, pg, Nat.reduceLT, d11, hG, Rp.cells, hrej, c1, c2]
      exact hQ _ ⟨rfl, Ext.new⟩
  · have hno : ¬ ZE r := fun h => c1 h.2.1.1
    rw [decide_eq_false hno] at hQ
    simp (maxDischargeDepth := 8) only [sA, sM, zb, zo, zm, za, ze, Cells.get, getN, pp, pv, pw, pg, Nat.reduceLT, d11, hG, Rp.cells, hrej, c1]
    exact hQ _ ⟨rfl, Ext.new⟩
 | true =>
  by_cases a1 : r.trap = 0
  · by_cases a2 : r.v = 0
    · by_cases a3 : r.gas = 0
      · have hnr : ¬ (r.rej = true ∧ (r.trap ≠ 0 ∨ r.v ≠ 0 ∨ r.gas ≠ 0)) := fun h => by rcases h.2 with h | h | h <;> contradiction
        by_cases c1 : 0 ≤ r.c
        · skip
          by_cases c2 : r.c ≤ 63
          · skip
            by_cases c3 : 1 ≤ r.n
            · skip
              by_cases c4 : r.n ≤ 1099511627776
              · skip
                have hyes : ZE r := ⟨hnr, ⟨c1, c2, c3, c4⟩, by omega, by omega, by omega, by omega⟩
                rw [decide_eq_true hyes] at hQ
                simp (maxDischargeDepth := 8) only [sA, sM, zb, zo, zm, za, ze, Cells.get, getN, pp, pv, pw, pg, Int.reduceLE, Nat.reduceLT, d11, hG, Rp.cells, hrej, a1, a2, a3, c1, c2, c3, c4]
                exact hQ _ ⟨rfl, Ext.new⟩
              · have hno : ¬ ZE r := fun h => c4 h.2.1.2.2.2
                rw [decide_eq_false hno] at hQ
                simp (maxDischargeDepth := 8) only [sA, sM, zb, zo, zm, za, ze, Cells.get, getN, pp, pv, pw, pg, Nat.reduceLT, d11, hG, Rp.cells, hrej, a1, a2, a3, c1, c2, c3, c4]
                exact hQ _ ⟨rfl, Ext.new⟩
            · have hno : ¬ ZE r := fun h => c3 h.2.1.2.2.1
              rw [decide_eq_false hno] at hQ
              simp (maxDischargeDepth := 8) only [sA, sM, zb, zo, zm, za, ze, Cells.get, getN, pp, pv, pw, pg, Nat.reduceLT, d11, hG, Rp.cells, hrej, a1, a2, a3, c1, c2, c3]
              exact hQ _ ⟨rfl, Ext.new⟩
          · have hno : ¬ ZE r := fun h => c2 h.2.1.2.1
            rw [decide_eq_false hno] at hQ
            simp (maxDischargeDepth := 8) only [sA, sM, zb, zo, zm, za, ze, Cells.get, getN, pp, pv, pw, pg, Nat.reduceLT, d11, hG, Rp.cells, hrej, a1, a2, a3, c1, c2]
            exact hQ _ ⟨rfl, Ext.new⟩
        · have hno : ¬ ZE r := fun h => c1 h.2.1.1
          rw [decide_eq_false hno] at hQ
          simp (maxDischargeDepth := 8) only [sA, sM, zb, zo, zm, za, ze, Cells.get, getN, pp, pv, pw, pg, Nat.reduceLT, d11, hG, Rp.cells, hrej, a1, a2, a3, c1]
          exact hQ _ ⟨rfl, Ext.new⟩
      · have hno : ¬ ZE r := fun h => h.1 ⟨hrej, .inr (.inr a3)⟩
        rw [decide_eq_false hno] at hQ
        simp (maxDischargeDepth := 8) only [sA, sM, zb, zo, zm, za, ze, Cells.get, getN, pp, pv, pw, pg, Nat.reduceLT, d11, hG, Rp.cells, hrej, a1, a2, a3]
        exact hQ _ ⟨rfl, Ext.new⟩
    · have hno : ¬ ZE r := fun h => h.1 ⟨hrej, .inr (.inl a2)⟩
      rw [decide_eq_false hno] at hQ
      simp (maxDischargeDepth := 8) only [sA, sM, zb, zo, zm, za, ze, Cells.get, getN, pp, pv, pw, pg, Nat.reduceLT, d11, hG, Rp.cells, hrej, a1, a2]
      exact hQ _ ⟨rfl, Ext.new⟩
  · have hno : ¬ ZE r := fun h => h.1 ⟨hrej, .inl a1⟩
    rw [decide_eq_false hno] at hQ
    simp (maxDischargeDepth := 8) only [sA, sM, zb, zo, zm, za, ze, Cells.get, getN, pp, pv, pw, pg, Nat.reduceLT, d11, hG, Rp.cells, hrej, a1]
    exact hQ _ ⟨rfl, Ext.new⟩
end
end Go.Dx.TbA
namespace Go.Dx.TbA
open Go Go.Dx Go.Dx.Tab Go.Proofs.YthmgnfeljhdioaaGreat
section
variable {E : Env} {s : DS} {d : Nat}
theorem GT (hf : E.fn 10 = some d10) (hi : E.intr 10 = none) (hG : s.Good) (x : Yn) (b1 b2 : Option Addr) (c1 c2 : Nat) : W (dcall E (d + 1) (.func (.func 10) #[] #[]) [.agg ⟨[.int .i64 x.1.1, .int .i64 x.1.2, .slice b1 x.2.1.length c1, .slice b2 x.2.2.1.length c2, .int .i64 x.2.2.2]⟩] s) fun r => r.1 = .bool (decide (XT x)) ∧ Ext [] s r.2 := by
 refine zp fun Q hQ => ?_
 rw [zj hi hf rfl]
 unfold XT Who at hQ
 by_cases c0 : 0 ≤ x.1.1
 · by_cases c63 : x.1.1 ≤ 63
   · by_cases k1 : 1 ≤ x.1.2
     · by_cases k2 : x.1.2 ≤ 1099511627776
       · by_cases m1 : (x.2.1.length : Int) ≤ 16384
         · by_cases m2 : (x.2.2.1.length : Int) ≤ 8
           · by_cases g1 : 0 ≤ x.2.2.2
             · by_cases g2 : x.2.2.2 ≤ 1048576
               · simp (maxDischargeDepth := 8) only [sA, sM, zb, zo, zm, za, ze, Cells.get, getN, pp, pv, pg, Nat.reduceLT, d10, hG, c0, c63, k1, k2, m1, m2, g1, g2]
                 exact hQ _ ⟨by simp [c0, c63, k1, k2, m1, m2, g1, g2], Ext.new⟩
               · simp (maxDischargeDepth := 8) only [sA, sM, zb, zo, zm, za, ze, Cells.get, getN, pp, pv, pg, Nat.reduceLT, d10, hG, c0, c63, k1, k2, m1, m2, g1, g2]
                 exact hQ _ ⟨by simp [g2], Ext.new⟩
             · simp (maxDischargeDepth := 8) only [sA, sM, zb, zo, zm, za, ze, Cells.get, getN, pp, pv, pg, Nat.reduceLT, d10, hG, c0, c63, k1, k2, m1, m2, g1]
               exact hQ _ ⟨by simp [g1], Ext.new⟩
           · simp (maxDischargeDepth := 8) only [sA, sM, zb, zo, zm, za, ze, Cells.get, getN, pp, pv, pg, Nat.reduceLT, d10, hG, c0, c63, k1, k2, m1, m2]
             exact hQ _ ⟨by simp [m2], Ext.new⟩
         · simp (maxDischargeDepth := 8) only [sA, sM, zb, zo, zm, za, ze, Cells.get, getN, pp, pv, pg, Nat.reduceLT, d10, hG, c0, c63, k1, k2, m1]
           exact hQ _ ⟨by simp [m1], Ext.new⟩
       · simp (maxDischargeDepth := 8) only [sA, sM, zb, zo, zm, za, ze, Cells.get, getN, pp, pv, pg, Nat.reduceLT, d10, hG, c0, c63, k1, k2]
         exact hQ _ ⟨by simp [k2], Ext.new⟩
     · simp (maxDischargeDepth := 8) only [sA, sM, zb, zo, zm, za, ze, Cells.get, getN, pp, pv, pg, Nat.reduceLT, d10, hG, c0, c63, k1]
       exact hQ _ ⟨by simp [k1], Ext.new⟩
   · simp (maxDischargeDepth := 8) only [sA, sM, zb, zo, zm, za, ze, Cells.get, getN, pp, pv, pg, Nat.reduceLT, d10, hG, c0, c63]
     exact hQ _ ⟨by simp [c63], Ext.new⟩
 · simp (maxDischargeDepth := 8) only [sA, sM, zb, zo, zm, za, ze, Cells.get, getN, pp, pv, pg, Nat.reduceLT, d10, hG, c0]
   exact hQ _ ⟨by simp [c0], Ext.new⟩
end
end Go.Dx.TbA
namespace Go.Dx.TbA
open Go Go.Dx Go.Dx.Tab Go.Proofs.YthmgnfeljhdioaaGreat
theorem Wg : ∀ r : List Int, ZU (u8s r) = some (r.map fun n => UInt8.ofNat n.toNat)
 | [] => rfl
 | n :: r => by
  show (match ZU (u8s r) with | some l => some (UInt8.ofNat n.toNat :: l) | none => none) = _
  rw [Wg r]; rfl
theorem T9 (bs : List Int) : FY .eql ⟨⟨bs.map fun n => UInt8.ofNat n.toNat⟩⟩ ⟨⟨bs.map fun n => UInt8.ofNat n.toNat⟩⟩ = some (.bool true) := by
 show some (Value.bool (Yk _ _)) = _
 rw [Z7, beq_self_eq_true]
def Yn.zero : Yn := ((0, 0), ([], ([], 0)))
noncomputable def Mi (bs : List Int) : Yn := open Classical in if WB bs then (rdQ (bs, false)).1 else Yn.zero
structure SmI (S : DS) (p0 p1 len : Nat) (n : Nat) (y : St) : Prop where
 ex : ∃ i : Nat, n + i = len ∧ y.defers = [] ∧ y.s = S ∧ y.t.get 2 = some (.pointer (some ⟨p0, 0, none⟩)) ∧ y.t.get 3 = some (.pointer (some ⟨p1, 0, none⟩)) ∧ y.t.get 5 = some (.int .i64 (i : Int))
def CW : DCode := (.seq (.seq (.region [pp 5 (.mv (.const (.int .i64 0)))]) (.block 0 (.loop (.seq (.seq (.region [pv 43 5, pp 44 (.fadr 3 (tm 2)), pp 45 (.ld none (tm 44)), pp 46 (.blenL (tm 45)), pp 47 (.bin .lss (tm 43) (tm 46))]) (.cond (tm 47) (.skip) (.exit 0))) (.seq (.block 1 (.seq (.region [pp 50 (.fadr 3 (tm 2)), pp 51 (.ld none (tm 50)), pv 52 5, pp 53 (.ixL 1 (tm 51) (tm 52)), pp 54 (.ld none (tm 53)), pp 55 (.fadr 3 (tm 3)), pp 56 (.ld none (tm 55)), pv 57 5, pp 58 (.ixL 1 (tm 56) (tm 57)), pp 59 (.ld none (tm 58)), pp 60 (.bin .neq (tm 54) (tm 59))]) (.cond (tm 60) (.seq (.region [pp 4 (.mv (.const (.bool false)))]) (.ret)) (.skip)))) (.region [pv 48 5, pp 49 (.bin .add (tm 48) (.const (.int .i64 1))), pv 5 49])))))) (.seq (.region [pp 4 (.mv (.const (.bool true)))]) (.ret)))
def dSm : zf := { ntmps := 61, results := [.tmp 4], body := .seq (.region [pp 2 (.box (tm 0)), pp 3 (.box (tm 1)), pp 4 (.mv (.const (.bool false)))]) (.seq (.seq (.region [pp 6 (.fadr 0 (tm 2)), pp 7 (.ld none (tm 6)), pp 8 (.fadr 0 (tm 3)), pp 9 (.ld none (tm 8)), pp 10 (.bin .neq (tm 7) (tm 9)), pv 11 10, pg 12 (.fadr 1 (tm 2)) 11 false, pg 13 (.ld none (tm 12)) 11 false, pg 14 (.fadr 1 (tm 3)) 11 false, pg 15 (.ld none (tm 14)) 11 false, pg 16 (.bin .neq (tm 13) (tm 15)) 11 false, pp 17 (.pick (tm 11) (.const (.bool true)) (tm 16)), pv 18 17, pg 19 (.fadr 2 (tm 2)) 18 false, pg 20 (.ld none (tm 19)) 18 false, pg 21 (.cvToStr (tm 20)) 18 false, pg 22 (.fadr 2 (tm 3)) 18 false, pg 23 (.ld none (tm 22)) 18 false, pg 24 (.cvToStr (tm 23)) 18 false, pg 25 (.bin .neq (tm 21) (tm 24)) 18 false, pp 26 (.pick (tm 18) (.const (.bool true)) (tm 25)), pv 27 26, pg 28 (.fadr 4 (tm 2)) 27 false, pg 29 (.ld none (tm 28)) 27 false, pg 30 (.fadr 4 (tm 3)) 27 false, pg 31 (.ld none (tm 30)) 27 false, pg 32 (.bin .neq (tm 29) (tm 31)) 27 false, pp 33 (.pick (tm 27) (.const (.bool true)) (tm 32)), pv 34 33, pg 35 (.fadr 3 (tm 2)) 34 false, pg 36 (.ld none (tm 35)) 34 false, pg 37 (.blenL (tm 36)) 34 false, pg 38 (.fadr 3 (tm 3)) 34 false, pg 39 (.ld none (tm 38)) 34 false, pg 40 (.blenL (tm 39)) 34 false, pg 41 (.bin .neq (tm 37) (tm 40)) 34 false, pp 42 (.pick (tm 34) (.const (.bool true)) (tm 41))]) (.cond (tm 42) (.seq (.region [pp 4 (.mv (.const (.bool false)))]) (.ret)) (.skip))) CW) }
theorem M0 : d13 = dSm := rfl
section
variable {E : Env} {d : Nat}
theorem MG {S : DS} {p0 p1 : Nat} {x : Yn} {v1 v2 m1 m2 : Value} {t : PT Value} {Q : Value × DS → Prop} (hlf : 10000 ≤ E.lf) (h8 : x.2.2.1.length ≤ 8)
 (g0 : S.get p0 = some (.cells (.list [.int .i64 x.1.1, .int .i64 x.1.2, m1, v1, .int .i64 x.2.2.2]) false)) (g1 : S.get p1 = some (.cells (.list [.int .i64 x.1.1, .int .i64 x.1.2, m2, v2, .int .i64 x.2.2.2]) false))
 (h1 : SlI S v1 x.2.2.1) (h2 : SlI S v2 x.2.2.1) (t2 : t.get 2 = some (.pointer (some ⟨p0, 0, none⟩))) (t3 : t.get 3 = some (.pointer (some ⟨p1, 0, none⟩))) (hQ : Q (.bool true, S)) :
 WC (dcall E d) E.lf false CW ⟨t, S, []⟩ (Ends [.tmp 4] Q) := by
 obtain ⟨a1, c1, e1⟩ := h1.shape
 obtain ⟨a2, c2, e2⟩ := h2.shape
 simp only [sA, pp, pv, CW, t2, t3]
 refine Wy (SmI S p0 p1 x.2.2.1.length) x.2.2.1.length (by omega) ⟨0, by omega, rfl, rfl, by simp only [sA, Nat.reduceEqDiff, t2], by simp only [sA, Nat.reduceEqDiff, t3], by simp only [Yl]; rfl⟩ ?_
 rintro n ⟨t, S', ds⟩ hn ⟨i, hni, hds, hs, t2, t3, t5⟩
 simp only at hds hs t2 t3 t5
 subst hds hs
 cases n with
 | zero =>
  have e0 : ¬ (i : Int) < (x.2.2.1.length : Int) := by omega
  subst e1
  simp only [sA, zb, zo, zm, Nat.reduceEqDiff, za, ze, Cells.get, getN, t2, t3, t5, g0, e0]
  exact hQ
 | succ n =>
  have e0 : (i : Int) < (x.2.2.1.length : Int) := by omega
  have hi : i < x.2.2.1.length := by omega
  have hx : x.2.2.1[i]? = some x.2.2.1[i] := List.getElem?_eq_getElem hi
  have ea : zt .i64 ((i : Int) + 1) = ((i + 1 : Nat) : Int) := by rw [zW (by omega) (by omega)]; omega
  rcases h1 with ⟨_, h0⟩ | ⟨b1, sp1, c1', cc1, ro1, rfl, k1, k2⟩
  · rw [h0] at hi
    exact absurd hi (by simp)
  rcases h2 with ⟨_, h0⟩ | ⟨b2, sp2, c2', cc2, ro2, rfl, k3, k4⟩
  · rw [h0] at hi
    exact absurd hi (by simp)
  have k2 := k2 i _ hx
  have k4 := k4 i _ hx
  simp only [Cells.get] at k2 k4
  simp only [sA, zb, zo, zm, Nat.reduceEqDiff, Cells.get, getN, t2, t3, t5, g0, g1, e0, k1, k2, k3, k4, hi, ea]
  exact ⟨n, by omega, ⟨i + 1, by omega, rfl, rfl, by simp only [sA, Nat.reduceEqDiff, t2], by simp only [sA, Nat.reduceEqDiff, t3], by simp only [Yl]⟩⟩
theorem PX (h13 : E.fn 13 = some d13) (i13 : E.intr 13 = none) (hlf : 10000 ≤ E.lf) {s : DS} {n1 n2 : Nat} {cs1 cs2 : List Value} {x : Yn} (h8 : x.2.2.1.length ≤ 8) (hG : s.Good) (r1 : Yu n1 s cs1 x) (r2 : Yu n2 s cs2 x) :
 W (dcall E (d + 1) (.func (.func 13) #[] #[]) [.agg ⟨cs1⟩, .agg ⟨cs2⟩] s) fun p => p.1 = .bool true ∧ Ext [] s p.2 := by
 obtain ⟨b1, c1, b2, c2, rfl, m1, a1⟩ := r1
 obtain ⟨b3, c3, b4, c4, rfl, m2, a2⟩ := r2
 refine zp fun Q hQ => ?_
 rw [zj i13 (show E.fn 13 = some dSm from by rw [← M0]; exact h13) rfl]
 obtain ⟨S1, hS1⟩ : ∃ S1 : DS, S1 = (s.new (.cells (.list [.int .i64 x.1.1, .int .i64 x.1.2, .slice b1 x.2.1.length c1, .slice b2 x.2.2.1.length c2, .int .i64 x.2.2.2]) false)).new (.cells (.list [.int .i64 x.1.1, .int .i64 x.1.2, .slice b3 x.2.1.length c3, .slice b4 x.2.2.1.length c4, .int .i64 x.2.2.2]) false) := ⟨_, rfl⟩
 have X1 : ∀ F, Ext F s S1 := fun F => by rw [hS1]; exact Ext.new.trans' Ext.new
 have g0 : S1.get s.next = some (.cells (.list [.int .i64 x.1.1, .int .i64 x.1.2, .slice b1 x.2.1.length c1, .slice b2 x.2.2.1.length c2, .int .i64 x.2.2.2]) false) := by rw [hS1]; simp (maxDischargeDepth := 8) only [sM, z8, hG]
 have g1 : S1.get (s.next + 1) = some (.cells (.list [.int .i64 x.1.1, .int .i64 x.1.2, .slice b3 x.2.1.length c3, .slice b4 x.2.2.1.length c4, .int .i64 x.2.2.2]) false) := by rw [hS1]; simp (maxDischargeDepth := 8) only [sM, z8, hG]
 have hm1 := m1.1.keep (X1 []) (by simp)
 have hm2 := m2.1.keep (X1 []) (by simp)
 have ha1 := a1.1.keep (X1 []) (by simp)
 have ha2 := a2.1.keep (X1 []) (by simp)
 have hTN : FY .neq ⟨⟨x.2.1.map fun n => UInt8.ofNat n.toNat⟩⟩ ⟨⟨x.2.1.map fun n => UInt8.ofNat n.toNat⟩⟩ = some (.bool false) := by
  show some (Value.bool (!(Yk _ _))) = _
  rw [Z7, beq_self_eq_true]
  rfl
 have dN : FY .neq ⟨⟨[]⟩⟩ ⟨⟨[]⟩⟩ = some (.bool false) := rfl
 have htb := Wg x.2.1
 have ii : ∀ z : Int, (z = z) = True := fun z => eq_true rfl
 simp (maxDischargeDepth := 8) only [sA, sM, zb, Cells.get, pp, pv, pg, Nat.reduceLT, dSm, hG, ← hS1]
 have fin : ∀ t : PT Value, t.get 2 = some (.pointer (some ⟨s.next, 0, none⟩)) → t.get 3 = some (.pointer (some ⟨s.next + 1, 0, none⟩)) → WC (dcall E d) E.lf false CW ⟨t, S1, []⟩ (Ends [.tmp 4] Q) := fun t t2 t3 => MG hlf h8 g0 g1 ha1 ha2 t2 t3 (hQ _ ⟨rfl, X1 _⟩)
 clear hS1
 rcases hm1 with ⟨hv1, hb1⟩ | ⟨k1, o1, sp1, cc1, hv1, _, _, hrd1⟩
 · rcases hm2 with ⟨hv5, _⟩ | ⟨k5, o5, sp5, cc5, hv5, _, _, hrd5⟩
   · rw [hv1] at g0
     rw [hv5] at g1
     simp (maxDischargeDepth := 8) only [sA, sM, zb, zo, zm, zk, Cells.get, getN, Nat.reduceLT, g0, g1, ii, dN]
     exact fin _ (by simp only [sA, Nat.reduceEqDiff]) (by simp only [sA, Nat.reduceEqDiff])
   · rw [hv1] at g0
     rw [hv5] at g1
     have hr0 : S1.read k5 o5 0 = some [] := by rw [hb1] at hrd5; exact hrd5
     have t0 : ZU [] = some [] := rfl
     simp (maxDischargeDepth := 8) only [sA, sM, zb, zo, zm, zk, Cells.get, getN, Nat.reduceLT, g0, g1, ii, hb1, hr0, t0, dN]
     exact fin _ (by simp only [sA, Nat.reduceEqDiff]) (by simp only [sA, Nat.reduceEqDiff])
 · rcases hm2 with ⟨hv5, hb5⟩ | ⟨k5, o5, sp5, cc5, hv5, _, _, hrd5⟩
   · rw [hv1] at g0
     rw [hv5] at g1
     have hr0 : S1.read k1 o1 0 = some [] := by rw [hb5] at hrd1; exact hrd1
     have t0 : ZU [] = some [] := rfl
     simp (maxDischargeDepth := 8) only [sA, sM, zb, zo, zm, zk, Cells.get, getN, Nat.reduceLT, g0, g1, ii, hb5, hr0, t0, dN]
     exact fin _ (by simp only [sA, Nat.reduceEqDiff]) (by simp only [sA, Nat.reduceEqDiff])
   · rw [hv1] at g0
     rw [hv5] at g1
     simp (maxDischargeDepth := 8) only [sA, sM, zb, zo, zm, zk, Cells.get, getN, Nat.reduceLT, g0, g1, ii, hrd1, hrd5, htb, hTN]
     exact fin _ (by simp only [sA, Nat.reduceEqDiff]) (by simp only [sA, Nat.reduceEqDiff])
end
end Go.Dx.TbA
