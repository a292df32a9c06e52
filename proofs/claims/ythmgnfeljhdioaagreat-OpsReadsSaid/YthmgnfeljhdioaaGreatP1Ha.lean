/- A part. -/
import Derived.Test.YthmgnfeljhdioaaGreatP1Ga
import Derived.Test.YthmgnfeljhdioaaGreatP1Br
import Derived.Test.YthmgnfeljhdioaaGreatDxTopM
set_option linter.unusedVariables false
set_option linter.unusedSimpArgs false
set_option linter.unusedSectionVars false
set_option maxRecDepth 100000
set_option maxHeartbeats 4000000
namespace Go.Dx.TbA
open Go Go.Dx Go.Dx.Tab Go.Proofs.YthmgnfeljhdioaaGreat
def F9 : DCode := (.seq (.region [pv 38 0, pp 39 (.call (.func 41) [.tmp 38]), pp 40 (.fadr 4 (tm 4)), ⟨none, .st 1 (tm 40) (tm 39), none, [], false⟩]) (.seq (.region [⟨some 41, .ld (some 5) (tm 4), none, [], true⟩, ⟨some 42, .mv (tm 0), none, [], true⟩, ⟨some 43, .nilck (tm 42), none, [], true⟩, ⟨some 44, .fadr 1 (tm 43), none, [], true⟩, ⟨some 45, .ld none (tm 44), none, [], true⟩, ⟨some 46, .un .not (tm 45), none, [], true⟩, ⟨some 47, .mv (tm 46), none, [], true⟩, ⟨some 48, .ld (some 5) (tm 4), some (47, true), [], true⟩, ⟨some 49, .call (.func 10) [.tmp 48], some (47, true), [0], true⟩, ⟨some 50, .pick (tm 47) (tm 49) (.const (.bool false)), none, [], true⟩, ⟨none, .st 5 (tm 2) (tm 41), none, [], true⟩, ⟨some 3, .mv (tm 50), none, [], true⟩]) (.ret)))
def dRq : ze := { ntmps := 51, results := [.cell 2 (some 5), .tmp 3], body := .seq (.region [pp 2 (.alloc [.int .i64 0, .int .i64 0, .slice none 0 0, .slice none 0 0, .int .i64 0]), pp 3 (.mv (.const (.bool false)))]) (.seq (.region [pp 7 (.build [.int .i64 0, .int .i64 0, .slice none 0 0, .slice none 0 0, .int .i64 0] []), pp 4 (.alloc [.int .i64 0, .int .i64 0, .slice none 0 0, .slice none 0 0, .int .i64 0]), ⟨none, .st 5 (tm 4) (tm 7), none, [], false⟩]) (.seq (.region [pv 8 0, pp 9 (.call (.func 40) [.tmp 8]), pp 10 (.fadr 0 (tm 4)), ⟨none, .st 1 (tm 10) (tm 9), none, [], false⟩]) (.seq (.region [pv 11 0, pp 12 (.call (.func 41) [.tmp 11]), pp 13 (.fadr 1 (tm 4)), ⟨none, .st 1 (tm 13) (tm 12), none, [], false⟩]) (.seq (.region [pv 14 0, pp 15 (.call (.func 68) [.tmp 14]), pp 16 (.fadr 2 (tm 4)), ⟨none, .st 1 (tm 16) (tm 15), none, [], false⟩]) (.seq (.region [pv 17 0, pp 18 (.call (.func 69) [.tmp 17]), pv 5 18]) (.seq (.seq (.region [pp 6 (.mv (.const (.int .i64 0)))]) (.block 0 (.loop (.seq (.seq (.region [pv 19 6, pv 20 5, pp 21 (.bin .lss (tm 19) (tm 20)), pv 22 21, pw 23 0 22 true, pg 24 (.nilck (tm 23)) 22 true, pg 25 (.fadr 1 (tm 24)) 22 true, pg 26 (.ld none (tm 25)) 22 true, pg 27 (.un .not (tm 26)) 22 true, pp 28 (.pick (tm 22) (tm 27) (.const (.bool false)))]) (.cond (tm 28) (.skip) (.exit 0))) (.seq (.block 1 (.region [⟨some 31, .fadr 3 (tm 4), none, [], true⟩, ⟨some 32, .ld none (tm 31), none, [], true⟩, ⟨some 33, .mv (tm 0), none, [], true⟩, ⟨some 34, .call (.func 41) [.tmp 33], none, [1], true⟩, ⟨some 35, .bslice 1 1 [.int .i64 0] [(0, 1, .tmp 34)], none, [], true⟩, ⟨some 36, .bapp 8 1 (tm 32) (tm 35), none, [], true⟩, ⟨some 37, .fadr 3 (tm 4), none, [], true⟩, ⟨none, .st 1 (tm 37) (tm 36), none, [], true⟩])) (.region [pv 29 6, pp 30 (.bin .add (tm 29) (.const (.int .i64 1))), pv 6 30])))))) F9)))))) }
theorem Nd : d39 = dRq := rfl
section
variable {E : Env} {s : DS} {d : Nat}
theorem Ts (hf : E.fn 10 = some d10) (hi : E.intr 10 = none) (hG : s.Good) (x : XY) (b1 b2 : Option Addr) (c1 c2 : Nat) : W (dcall E (d + 1) (.func (.func 10) #[] #[]) [.agg ⟨[.int .i64 x.1.1, .int .i64 x.1.2, .slice b1 x.2.1.length c1, .slice b2 x.2.2.1.length c2, .int .i64 x.2.2.2]⟩] s) fun r => r.1 = .bool (decide (QQ x)) ∧ Ext [] s r.2 := by
 refine zD fun Q hQ => ?_
 rw [zn hi hf rfl]
 unfold QQ Who at hQ
 by_cases c0 : 0 ≤ x.1.1
 · by_cases c63 : x.1.1 ≤ 63
   · by_cases k1 : 1 ≤ x.1.2
     · by_cases k2 : x.1.2 ≤ 1099511627776
       · by_cases m1 : (x.2.1.length : Int) ≤ 16384
         · by_cases m2 : (x.2.2.1.length : Int) ≤ 8
           · by_cases g1 : 0 ≤ x.2.2.2
             · by_cases g2 : x.2.2.2 ≤ 1048576
               · simp (maxDischargeDepth := 8) only [sA, sM, zc, zp, zl, za, zf, Cells.get, getN, pp, pv, pg, Nat.reduceLT, d10, hG, c0, c63, k1, k2, m1, m2, g1, g2]
                 exact hQ _ ⟨by simp [c0, c63, k1, k2, m1, m2, g1, g2], Ext.new⟩
               · simp (maxDischargeDepth := 8) only [sA, sM, zc, zp, zl, za, zf, Cells.get, getN, pp, pv, pg, Nat.reduceLT, d10, hG, c0, c63, k1, k2, m1, m2, g1, g2]
                 exact hQ _ ⟨by simp [g2], Ext.new⟩
             · simp (maxDischargeDepth := 8) only [sA, sM, zc, zp, zl, za, zf, Cells.get, getN, pp, pv, pg, Nat.reduceLT, d10, hG, c0, c63, k1, k2, m1, m2, g1]
               exact hQ _ ⟨by simp [g1], Ext.new⟩
           · simp (maxDischargeDepth := 8) only [sA, sM, zc, zp, zl, za, zf, Cells.get, getN, pp, pv, pg, Nat.reduceLT, d10, hG, c0, c63, k1, k2, m1, m2]
             exact hQ _ ⟨by simp [m2], Ext.new⟩
         · simp (maxDischargeDepth := 8) only [sA, sM, zc, zp, zl, za, zf, Cells.get, getN, pp, pv, pg, Nat.reduceLT, d10, hG, c0, c63, k1, k2, m1]
           exact hQ _ ⟨by simp [m1], Ext.new⟩
       · simp (maxDischargeDepth := 8) only [sA, sM, zc, zp, zl, za, zf, Cells.get, getN, pp, pv, pg, Nat.reduceLT, d10, hG, c0, c63, k1, k2]
         exact hQ _ ⟨by simp [k2], Ext.new⟩
     · simp (maxDischargeDepth := 8) only [sA, sM, zc, zp, zl, za, zf, Cells.get, getN, pp, pv, pg, Nat.reduceLT, d10, hG, c0, c63, k1]
       exact hQ _ ⟨by simp [k1], Ext.new⟩
   · simp (maxDischargeDepth := 8) only [sA, sM, zc, zp, zl, za, zf, Cells.get, getN, pp, pv, pg, Nat.reduceLT, d10, hG, c0, c63]
     exact hQ _ ⟨by simp [c63], Ext.new⟩
 · simp (maxDischargeDepth := 8) only [sA, sM, zc, zp, zl, za, zf, Cells.get, getN, pp, pv, pg, Nat.reduceLT, d10, hG, c0]
   exact hQ _ ⟨by simp [c0], Ext.new⟩
end
section
variable {E : Env} (hR : QP E) {d : Nat}
include hR
theorem PZ (hf : E.fn 10 = some d10) (hi : E.intr 10 = none) {S : DS} {r p0 p1 : Nat} {bv : Value} {st : RS} {y0 y1 : Int} {y2 l : List Int} {a1 a2 : Option Addr} {c1 c2 : Nat} {t : PT Value} {Q : Value × DS → Prop}
 (g1 : S.get p1 = some (.cells (.list [.int .i64 y0, .int .i64 y1, .slice a1 y2.length c1, .slice a2 l.length c2, .int .i64 0]) false)) (w1 : S.wr p1 = true) (g0 : S.get p0 = some (.cells (.list [.int .i64 0, .int .i64 0, .slice none 0 0, .slice none 0 0, .int .i64 0]) false)) (w0 : S.wr p0 = true)
 (hI : zI S r bv st.1 st.2) (h01 : p0 ≠ p1) (hr0 : r ≠ p0) (hr1 : r ≠ p1) (hb0 : ∀ k, k ∈ blk bv → k ≠ p0 ∧ k ≠ p1) (hG : S.Good) (hB : IsB st.1) (hl : st.1.length ≤ 1048576)
 (t0 : t.get 0 = some (.pointer (some ⟨r, 0, none⟩))) (t2 : t.get 2 = some (.pointer (some ⟨p0, 0, none⟩))) (t4 : t.get 4 = some (.pointer (some ⟨p1, 0, none⟩)))
 (hQ : ∀ p, (p.1 = .tuple ⟨[.agg ⟨[.int .i64 y0, .int .i64 y1, .slice a1 y2.length c1, .slice a2 l.length c2, .int .i64 (rdN 8 0 st).1]⟩, .bool (decide ((rdN 8 0 st).2.2 = false ∧ QQ ((y0, y1), (y2, (l, (rdN 8 0 st).1)))))]⟩ ∧ ∃ bv', zI p.2 r bv' (rdN 8 0 st).2.1 (rdN 8 0 st).2.2 ∧ Ext [r, p0, p1] S p.2 ∧ ∀ k, k ∈ blk bv' → k ∈ blk bv) → Q p) :
 WC (dcall E (d + 4)) E.lf false F9 ⟨t, S, []⟩ (Ends [.cell 2 (some 5), .tmp 3] Q) := by
 have hrl := DS.get_lt' hI.gr
 have hp0 := DS.get_lt' g0
 have hp1 := DS.get_lt' g1
 simp only [sA, pp, pv, F9, t0, t2, t4]
 refine W.mono (Wu hR (d := d + 1) (bs := st.1) (bad := st.2) hI hG hB hl) ?_
 rintro ⟨v1, T1⟩ ⟨bv1, hv1, I1, X1, b1⟩
 simp only at hv1 I1 X1 b1
 have hv1 : v1 = _ := hv1
 subst hv1
 rw [show ((st.1, st.2) : RS) = st from rfl] at I1
 rw [show ((st.1, st.2) : RS) = st from rfl]
 obtain ⟨y4, hy4⟩ : ∃ y, y = (rdN 8 0 st).1 := ⟨_, rfl⟩
 obtain ⟨x1, hx1⟩ : ∃ x, x = (rdN 8 0 st).2 := ⟨_, rfl⟩
 rw [← hy4, ← hx1] at hQ
 rw [← hx1] at I1
 rw [← hy4]
 have gT1 := X1.keep g1 (by simp; omega)
 have wT1 := X1.wrs w1
 simp (maxDischargeDepth := 8) only [sA, sM, zc, Cells.get, getN, Nat.reduceAdd, zh, zg, DS.wrC, Cells.size, Cells.fillFrom, Cells.set, zt, ldA, foot, DS.read, Cells.take, Nat.reduceLT, t0, t2, t4, gT1, wT1]
 obtain ⟨S1, hS1⟩ : ∃ S : DS, S = T1.upd p1 (.cells (.list [.int .i64 y0, .int .i64 y1, .slice a1 y2.length c1, .slice a2 l.length c2, .int .i64 y4]) false) := ⟨_, rfl⟩
 rw [← hS1]
 have XU1 : Ext [p1] T1 S1 := by rw [hS1]; exact Ext.upd (.inl (by simp))
 have gB1 : S1.get p1 = some (.cells (.list [.int .i64 y0, .int .i64 y1, .slice a1 y2.length c1, .slice a2 l.length c2, .int .i64 y4]) false) := by rw [hS1, DS.upd_get_self, gT1]; rfl
 have gA1 := XU1.keep (X1.keep g0 (by simp; omega)) (by simp; omega)
 have wA1 : S1.wr p0 = true := XU1.wrs (X1.wrs w0)
 have I2 : zI S1 r bv1 x1.1 x1.2 := I1.keep XU1 (by simp; omega) (fun k hk => by have := hb0 k (b1 k hk); simp; omega)
 have n1 : S1.next = T1.next := by rw [hS1, DS.upd_next]
 have Y1 : Ext [r, p0, p1] S S1 := (X1.weaken (by simp)).trans' (XU1.weaken (by simp))
 have G1 := Y1.good hG
 clear hS1
 have gr6 := I2.gr
 have hle := X1.le
 have Xend : ∀ (S' : DS) (o : DObj), Ext [r, p0, p1] S S' → Ext [r, p0, p1] S (S'.upd p0 o) := fun S' o Y => Y.trans' (Ext.upd (.inl (by simp)))
 have hout : ∀ (S' : DS) (o : DObj), zI S' r bv1 x1.1 x1.2 → zI (S'.upd p0 o) r bv1 x1.1 x1.2 := fun S' o I => I.keep (Ext.upd (F := [p0]) (.inl (by simp))) (by simp; omega) (fun k hk => by have := hb0 k (b1 k hk); simp; omega)
 cases hb : x1.2 with
 | true =>
  rw [hb] at gr6
  simp (maxDischargeDepth := 8) only [sA, sM, zc, zk, za, zf, Cells.get, getN, Nat.reduceAdd, zh, zg, DS.wrC, Cells.size, Cells.fillFrom, Cells.set, zt, foot, DS.read, Cells.take, Nat.reduceLT, t0, t2, t4, gr6, gA1, gB1, wA1]
  refine hQ _ ⟨?_, bv1, hout _ _ I2, Xend _ _ Y1, b1⟩
  rw [decide_eq_false (fun h => by rw [hb] at h; cases h.1)]
 | false =>
  rw [hb] at gr6
  simp (maxDischargeDepth := 8) only [sA, sM, zc, Cells.get, getN, ldA, foot, DS.read, Cells.take, Nat.reduceLT, t0, t2, t4, gr6, gA1, gB1, wA1]
  refine W.masked (hR.fr _) (Ts hf hi (d := d + 3) (Yq G1 fun k hk => ?_) ((y0, y1), (y2, (l, y4))) a1 a2 c1 c2) ?_
  · have hk : S1.next ≤ k := hk
    have := DS.get_lt' gB1
    exact ⟨by (simp only [hidden, shielded, noteAt, zM, Bool.or_false, Bool.or_eq_false_iff, Bool.and_eq_false_iff, Ze, Zm, Zn, true_and, and_true, true_or, or_true] <;> omega), by (simp only [hidden, shielded, noteAt, zM, Bool.or_false, Bool.or_eq_false_iff, Bool.and_eq_false_iff, Ze, Zm, Zn, true_and, and_true, true_or, or_true] <;> omega)⟩
  rintro v7 s7 ⟨h7, X7⟩ df
  simp only at h7 X7
  subst h7
  have X7' := Ext.unmask' X7 df
  obtain ⟨S7, hS7⟩ : ∃ S7 : DS, S7 = Zg S1 s7 := ⟨_, rfl⟩
  have n7 : s7.next = S7.next := by rw [hS7]; rfl
  rw [← hS7] at X7'
  have gA7 := X7'.keep gA1 (by simp)
  have wA7 := X7'.wrs wA1
  have Y7 := Y1.trans' (X7'.weaken (by simp))
  have I7 := I2.keep X7' (by simp) (by simp)
  simp (maxDischargeDepth := 8) only [sA, sM, zc, zk, za, zf, Cells.get, getN, Nat.reduceAdd, zh, zg, DS.wrC, Cells.size, Cells.fillFrom, Cells.set, zt, foot, DS.read, Cells.take, Nat.reduceLT, t0, t2, t4, ← hS7, n7, gA7, wA7]
  refine hQ _ ⟨?_, bv1, hout _ _ I7, Xend _ _ Y7, b1⟩
  rw [show decide (x1.2 = false ∧ QQ ((y0, y1), (y2, (l, y4)))) = decide (QQ ((y0, y1), (y2, (l, y4)))) from decide_eq_decide.2 ⟨fun h => h.2, fun h => ⟨hb, h⟩⟩]
end
structure RqI (S0 : DS) (r p0 p1 N L : Nat) (bv : Value) (y0 y1 : Int) (y2 : List Int) (a1 : Option Addr) (c1 : Nat) (tot : List Int × RS) (n : Nat) (y : St) : Prop where
 ex : ∃ (l : List Int) (st : RS) (lv bv' : Value), n + l.length = N ∧ y.defers = [] ∧
  (y.t.get 0 = some (.pointer (some ⟨r, 0, none⟩)) ∧ y.t.get 2 = some (.pointer (some ⟨p0, 0, none⟩)) ∧ y.t.get 4 = some (.pointer (some ⟨p1, 0, none⟩)) ∧ y.t.get 5 = some (.int .i64 (N : Int)) ∧ y.t.get 6 = some (.int .i64 (l.length : Int))) ∧
  y.s.get p1 = some (.cells (.list [.int .i64 y0, .int .i64 y1, .slice a1 y2.length c1, lv, .int .i64 0]) false) ∧ SlC y.s 1 lv (ints l) ∧ (∀ k, k ∈ blk lv → S0.next ≤ k) ∧ zI y.s r bv' st.1 st.2 ∧ (∀ k, k ∈ blk bv' → k ∈ blk bv) ∧ Ext [r, p1] S0 y.s ∧ y.s.Good ∧ IsB st.1 ∧ st.1.length ≤ L ∧ Z1 (rdN 8 0) n l st = tot
section
variable {E : Env} (hR : QP E) {s : DS} {r : Nat} {bv : Value} {bs : List Int} {bad : Bool} {d : Nat}
include hR
theorem Ct (hcode : E.fn 39 = some d39) (hintr : E.intr 39 = none) (hf : E.fn 10 = some d10) (hi : E.intr 10 = none) (h : zI s r bv bs bad) (hG : s.Good) (hB : IsB bs) (hl : bs.length ≤ 1048576) :
 W (dcall E (d + 5) (.func (.func 39) #[] #[]) [.pointer (some ⟨r, 0, none⟩)] s) fun p => ∃ cs, p.1 = .tuple ⟨[.agg ⟨cs⟩, .bool (decide ((rdQ (bs, bad)).2.2 = false ∧ QQ (rdQ (bs, bad)).1))]⟩ ∧ ZV s.next p.2 cs (rdQ (bs, bad)).1 ∧ ∃ bv', zI p.2 r bv' (rdQ (bs, bad)).2.1 (rdQ (bs, bad)).2.2 ∧ Ext [r] s p.2 ∧ ∀ k, k ∈ blk bv' → k ∈ blk bv := by
 have hrl := DS.get_lt' h.gr
 have hlf := hR.lf
 refine zD fun Q hQ => ?_
 rw [zn hintr (show E.fn 39 = some dRq from by rw [← Nd]; exact hcode) rfl]
 obtain ⟨S0, hS0⟩ : ∃ S0 : DS, S0 = ((s.new (.cells (.list [.int .i64 0, .int .i64 0, .slice none 0 0, .slice none 0 0, .int .i64 0]) false)).new (.cells (.list [.int .i64 0, .int .i64 0, .slice none 0 0, .slice none 0 0, .int .i64 0]) false)).upd (s.next + 1) (.cells (.list [.int .i64 0, .int .i64 0, .slice none 0 0, .slice none 0 0, .int .i64 0]) false) := ⟨_, rfl⟩
 have X0 : Ext [] s S0 := by
  rw [hS0]
  have a1 : Ext [] s ((s.new (.cells (.list [.int .i64 0, .int .i64 0, .slice none 0 0, .slice none 0 0, .int .i64 0]) false)).new (.cells (.list [.int .i64 0, .int .i64 0, .slice none 0 0, .slice none 0 0, .int .i64 0]) false)) := Ext.new.trans' Ext.new
  exact a1.trans (Ext.upd (F := [s.next + 1]) (.inl (by simp))) (by simp)
 have G0 := X0.good hG
 have gA0 : S0.get s.next = some (.cells (.list [.int .i64 0, .int .i64 0, .slice none 0 0, .slice none 0 0, .int .i64 0]) false) := by rw [hS0]; simp (maxDischargeDepth := 8) only [sA, sM, hG]
 have gB0 : S0.get (s.next + 1) = some (.cells (.list [.int .i64 0, .int .i64 0, .slice none 0 0, .slice none 0 0, .int .i64 0]) false) := by rw [hS0]; simp (maxDischargeDepth := 8) only [sA, sM, hG]
 have w0 : ∀ k, S0.wr (s.next + k) = true := fun k => X0.wrs (hG _ (Nat.le_add_right _ _)).2
 have n0 : S0.next = s.next + 2 := by rw [hS0]; simp (maxDischargeDepth := 8) only [sA, Nat.reduceAdd, Nat.add_assoc]
 obtain ⟨x0, hx0⟩ : ∃ x0 : RS, x0 = (bs, bad) := ⟨_, rfl⟩
 have I0 : zI S0 r bv x0.1 x0.2 := by rw [hx0]; exact h.keep X0 (by simp) (by simp)
 have B0 : IsB x0.1 := by rw [hx0]; exact hB
 have L0 : x0.1.length ≤ 1048576 := by rw [hx0]; exact hl
 have b0 : ∀ k, k ∈ blk bv → k ∈ blk bv := fun _ h => h
 have Y0 : Ext [r] s S0 := X0.weaken (by simp)
 have hx0' : x0 = (x0.1, x0.2) := rfl
 simp (maxDischargeDepth := 8) only [sA, sM, Nat.reduceAdd, zh, zg, DS.wrC, Cells.size, Cells.fillFrom, Cells.set, zt, zi, pp, pv, pw, pg, Nat.reduceLT, dRq, hG, ← hS0]
 refine W.mono (JQ hR (d := d) (bs := x0.1) (bad := x0.2) I0 G0 B0 L0) ?_
 rintro ⟨v1, T1⟩ ⟨bv1, hv1, IT1, XT1, bT1⟩
 simp only at hv1 IT1 XT1 bT1
 have hv1 : v1 = _ := hv1
 subst hv1
 obtain ⟨y0, hy0⟩ : ∃ y, y = (rdN 1 255 x0).1 := ⟨_, rfl⟩
 obtain ⟨x1, hx1⟩ : ∃ x, x = (rdN 1 255 x0).2 := ⟨_, rfl⟩
 have hvy1 : Value.int .i64 (rdN 1 255 x0).1 = Value.int .i64 y0 := by rw [hy0]
 rw [show ((x0.1, x0.2) : RS) = x0 from rfl] at IT1
 rw [show ((x0.1, x0.2) : RS) = x0 from rfl]
 rw [← hy0]
 rw [← hx1] at IT1
 obtain ⟨k1, hk1⟩ := (zA 1 255).suf x0
 rw [← hx1] at hk1
 have gT1 := XT1.keep gB0 (by simp; omega)
 have wT1 : ∀ k, T1.wr (s.next + k) = true := fun k => XT1.wrs (w0 k)
 simp (maxDischargeDepth := 8) only [sA, sM, zc, Nat.reduceAdd, zh, zg, Nat.reduceLeDiff, DS.wrC, Cells.size, Cells.fillFrom, Cells.set, zt, Nat.reduceLT, gT1, wT1]
 obtain ⟨S1, hS1⟩ : ∃ S : DS, S = T1.upd (s.next + 1) (.cells (.list [.int .i64 y0, .int .i64 0, .slice none 0 0, .slice none 0 0, .int .i64 0]) false) := ⟨_, rfl⟩
 rw [← hS1]
 have XU1 : Ext [s.next + 1] T1 S1 := by rw [hS1]; exact Ext.upd (.inl (by simp))
 have gB1 : S1.get (s.next + 1) = some (.cells (.list [.int .i64 y0, .int .i64 0, .slice none 0 0, .slice none 0 0, .int .i64 0]) false) := by rw [hS1, DS.upd_get_self, gT1]; rfl
 have gA1 := XU1.keep (XT1.keep gA0 (by simp; omega)) (by simp)
 have w1 : ∀ k, S1.wr (s.next + k) = true := fun k => XU1.wrs (wT1 k)
 have b1 : ∀ k, k ∈ blk bv1 → k ∈ blk bv := fun k hk => b0 k (bT1 k hk)
 have I1 : zI S1 r bv1 x1.1 x1.2 := IT1.keep XU1 (by simp; omega) (fun k hk => by have := h.sl.lt k (b1 k hk); simp; omega)
 have B1 : IsB x1.1 := by rw [hk1]; exact B0.drop k1
 have L1 : x1.1.length ≤ 1048576 := by rw [hk1]; simp; omega
 have Y1 : Ext [r] s S1 := (Y0.trans' XT1).trans XU1 (by simp)
 have G1 := Y1.good hG
 have n1 : S1.next = T1.next := by rw [hS1, DS.upd_next]
 clear hS1
 refine W.mono (Wu hR (d := d + 1) (bs := x1.1) (bad := x1.2) I1 G1 B1 L1) ?_
 rintro ⟨v2, T2⟩ ⟨bv2, hv2, IT2, XT2, bT2⟩
 simp only at hv2 IT2 XT2 bT2
 have hv2 : v2 = _ := hv2
 subst hv2
 obtain ⟨y1, hy1⟩ : ∃ y, y = (rdN 8 0 x1).1 := ⟨_, rfl⟩
 obtain ⟨x2, hx2⟩ : ∃ x, x = (rdN 8 0 x1).2 := ⟨_, rfl⟩
 have hvy2 : Value.int .i64 (rdN 8 0 x1).1 = Value.int .i64 y1 := by rw [hy1]
 rw [show ((x1.1, x1.2) : RS) = x1 from rfl] at IT2
 rw [show ((x1.1, x1.2) : RS) = x1 from rfl]
 rw [← hy1]
 rw [← hx2] at IT2
 obtain ⟨k2, hk2⟩ := (zA 8 0).suf x1
 rw [← hx2] at hk2
 have gT2 := XT2.keep gB1 (by simp; omega)
 have wT2 : ∀ k, T2.wr (s.next + k) = true := fun k => XT2.wrs (w1 k)
 simp (maxDischargeDepth := 8) only [sA, sM, zc, Nat.reduceAdd, zh, zg, Nat.reduceLeDiff, DS.wrC, Cells.size, Cells.fillFrom, Cells.set, zt, Nat.reduceLT, gT2, wT2]
 obtain ⟨S2, hS2⟩ : ∃ S : DS, S = T2.upd (s.next + 1) (.cells (.list [.int .i64 y0, .int .i64 y1, .slice none 0 0, .slice none 0 0, .int .i64 0]) false) := ⟨_, rfl⟩
 rw [← hS2]
 have XU2 : Ext [s.next + 1] T2 S2 := by rw [hS2]; exact Ext.upd (.inl (by simp))
 have gB2 : S2.get (s.next + 1) = some (.cells (.list [.int .i64 y0, .int .i64 y1, .slice none 0 0, .slice none 0 0, .int .i64 0]) false) := by rw [hS2, DS.upd_get_self, gT2]; rfl
 have gA2 := XU2.keep (XT2.keep gA1 (by simp; omega)) (by simp)
 have w2 : ∀ k, S2.wr (s.next + k) = true := fun k => XU2.wrs (wT2 k)
 have b2 : ∀ k, k ∈ blk bv2 → k ∈ blk bv := fun k hk => b1 k (bT2 k hk)
 have I2 : zI S2 r bv2 x2.1 x2.2 := IT2.keep XU2 (by simp; omega) (fun k hk => by have := h.sl.lt k (b2 k hk); simp; omega)
 have B2 : IsB x2.1 := by rw [hk2]; exact B1.drop k2
 have L2 : x2.1.length ≤ 1048576 := by rw [hk2]; simp; omega
 have Y2 : Ext [r] s S2 := (Y1.trans' XT2).trans XU2 (by simp)
 have G2 := Y2.good hG
 have n2 : S2.next = T2.next := by rw [hS2, DS.upd_next]
 clear hS2
 refine W.mono (Tz hR (d := d) (bs := x2.1) (bad := x2.2) I2 G2 B2 L2) ?_
 rintro ⟨v3, T3⟩ ⟨bv3, hv3, IT3, XT3, bT3, fT3⟩
 simp only at hv3 IT3 XT3 bT3 fT3
 obtain ⟨y2, hy2⟩ : ∃ y, y = (rdB x2).1 := ⟨_, rfl⟩
 obtain ⟨x3, hx3⟩ : ∃ x, x = (rdB x2).2 := ⟨_, rfl⟩
 rw [show ((x2.1, x2.2) : RS) = x2 from rfl] at hv3 IT3
 rw [← hy2] at hv3
 rw [← hx3] at IT3
 obtain ⟨k3, hk3⟩ := Fu.suf x2
 rw [← hx3] at hk3
 obtain ⟨a3, hs3⟩ := hv3.shape
 rw [Zp] at hs3
 have R3 : SlR T3 v3 y2 := SlX.bytes hv3
 subst hs3
 have gT3 := XT3.keep gB2 (by simp; omega)
 have wT3 : ∀ k, T3.wr (s.next + k) = true := fun k => XT3.wrs (w2 k)
 simp (maxDischargeDepth := 8) only [sA, sM, zc, Nat.reduceAdd, zh, zg, Nat.reduceLeDiff, DS.wrC, Cells.size, Cells.fillFrom, Cells.set, zt, Nat.reduceLT, gT3, wT3]
 obtain ⟨S3, hS3⟩ : ∃ S : DS, S = T3.upd (s.next + 1) (.cells (.list [.int .i64 y0, .int .i64 y1, .slice a3 y2.length y2.length, .slice none 0 0, .int .i64 0]) false) := ⟨_, rfl⟩
 rw [← hS3]
 have XU3 : Ext [s.next + 1] T3 S3 := by rw [hS3]; exact Ext.upd (.inl (by simp))
 have gB3 : S3.get (s.next + 1) = some (.cells (.list [.int .i64 y0, .int .i64 y1, .slice a3 y2.length y2.length, .slice none 0 0, .int .i64 0]) false) := by rw [hS3, DS.upd_get_self, gT3]; rfl
 have gA3 := XU3.keep (XT3.keep gA2 (by simp; omega)) (by simp)
 have w3 : ∀ k, S3.wr (s.next + k) = true := fun k => XU3.wrs (wT3 k)
 have b3 : ∀ k, k ∈ blk bv3 → k ∈ blk bv := fun k hk => b2 k (bT3 k hk)
 have I3 : zI S3 r bv3 x3.1 x3.2 := IT3.keep XU3 (by simp; omega) (fun k hk => by have := h.sl.lt k (b3 k hk); simp; omega)
 have B3 : IsB x3.1 := by rw [hk3]; exact B2.drop k3
 have L3 : x3.1.length ≤ 1048576 := by rw [hk3]; simp; omega
 have Y3 : Ext [r] s S3 := (Y2.trans' XT3).trans XU3 (by simp)
 have G3 := Y3.good hG
 have n3 : S3.next = T3.next := by rw [hS3, DS.upd_next]
 have le3 := XT3.le
 have leY2 := X0.le
 have fB : ∀ k, k ∈ blk (.slice a3 y2.length y2.length) → s.next + 2 ≤ k ∧ k < S3.next := fun k hk => by
  have h1 := fT3 k hk
  have h2 := R3.lt k hk
  have h3 := XT1.le
  have h4 := XT2.le
  omega
 have RB3 : SlR S3 (.slice a3 y2.length y2.length) y2 := R3.keep XU3 (fun k hk => by have := fB k hk; simp; omega)
 clear hS3
 refine W.mono (Tt hR (d := d) (bs := x3.1) (bad := x3.2) I3 G3 B3 L3) ?_
 rintro ⟨v4, S4⟩ ⟨bv4, hv4, I4, X4, b4⟩
 simp only at hv4 I4 X4 b4
 have hv4 : v4 = _ := hv4
 subst hv4
 rw [show ((x3.1, x3.2) : RS) = x3 from rfl] at I4
 rw [show ((x3.1, x3.2) : RS) = x3 from rfl]
 have hrg := Wv (size := 2) (most := 4096) x3 B3 (by decide) (by decide)
 obtain ⟨k4, hk4⟩ := (zA 2 4096).suf x3
 obtain ⟨x4, hx4⟩ : ∃ x, x = (rdN 2 4096 x3).2 := ⟨_, rfl⟩
 obtain ⟨N, hN⟩ : ∃ N : Nat, ((N : Nat) : Int) = (rdN 2 4096 x3).1 := ⟨(rdN 2 4096 x3).1.toNat, Int.toNat_of_nonneg hrg.1⟩
 obtain ⟨tot, htot⟩ : ∃ tot, tot = rdL (rdN 8 0) x3 := ⟨_, rfl⟩
 have htot' : Z1 (rdN 8 0) N [] x4 = tot := by
  rw [htot]
  unfold rdL
  rw [← hN, Int.toNat_natCast, hx4]
 rw [← hN] at hrg ⊢
 rw [← hx4] at I4 hk4
 have gB4 := X4.keep gB3 (by simp; omega)
 have gA4 := X4.keep gA3 (by simp; omega)
 have w4 : ∀ k, S4.wr (s.next + k) = true := fun k => X4.wrs (w3 k)
 have Y4 := Y3.trans' X4
 have G4 := X4.good G3
 have le4 := X4.le
 have leS4 : s.next + 2 ≤ S4.next := by have h3 := XT1.le; have h4 := XT2.le; omega
 have b4' : ∀ k, k ∈ blk bv4 → k ∈ blk bv := fun k hk => b3 k (b4 k hk)
 have B4 : IsB x4.1 := by rw [hk4]; exact B3.drop k4
 have L4 : x4.1.length ≤ 1048576 := by rw [hk4]; simp; omega
 have RB4 : SlR S4 (.slice a3 y2.length y2.length) y2 := RB3.keep X4 (fun k hk => by have := fB k hk; simp; omega)
 have hQe : rdQ (bs, bad) = (((y0, y1), (y2, (tot.1, (rdN 8 0 tot.2).1))), (rdN 8 0 tot.2).2) := by
  subst hy0 hy1 hy2 htot hx3 hx2 hx1 hx0
  rfl
 rw [hQe] at hQ
 have fin : ∀ (t : PT Value) (S : DS) (l : List Int) (st : RS) (lv bv' : Value), tot = (l, st) →
  (t.get 0 = some (.pointer (some ⟨r, 0, none⟩)) ∧ t.get 2 = some (.pointer (some ⟨s.next, 0, none⟩)) ∧ t.get 4 = some (.pointer (some ⟨s.next + 1, 0, none⟩))) →
  S.get (s.next + 1) = some (.cells (.list [.int .i64 y0, .int .i64 y1, .slice a3 y2.length y2.length, lv, .int .i64 0]) false) → SlC S 1 lv (ints l) → (∀ k, k ∈ blk lv → S4.next ≤ k) → zI S r bv' st.1 st.2 → (∀ k, k ∈ blk bv' → k ∈ blk bv4) → Ext [r, s.next + 1] S4 S → S.Good → IsB st.1 → st.1.length ≤ 1048576 →
  WC (dcall E (d + 4)) E.lf false F9 ⟨t, S, []⟩ (Ends [.cell 2 (some 5), .tmp 3] Q) := by
  rintro t S l st lv bv' he ⟨t0, t2, t4⟩ g1 sk bk I b X G B L
  have leX := X.le
  obtain ⟨a2, c2, hlv⟩ := (SlC.toI sk).shape
  subst hlv
  refine PZ hR hf hi g1 (X.wrs (w4 1)) (X.keep gA4 (by simp; omega)) (X.wrs (w4 0)) I (by omega) (by omega) (by omega) (fun k hk => by have := h.sl.lt k (b4' k (b k hk)); omega) G B L t0 t2 t4 ?_
  rintro p ⟨hp, bv9, I9, X9, b9⟩
  rw [he] at hQ
  refine hQ p ⟨_, hp, ⟨_, _, _, _, rfl, ⟨(RB4.keep X fun k hk => ?_).keep X9 fun k hk => ?_, fun k hk => ?_⟩, ⟨(SlC.toI sk).keep X9 fun k hk => ?_, fun k hk => ?_⟩⟩, bv9, I9, ?_, fun k hk => b4' k (b k (b9 k hk))⟩
  · have := fB k hk; simp; omega
  · have := fB k hk; simp; omega
  · have := fB k hk; omega
  · have := bk k hk; simp; omega
  · have := bk k hk; omega
  · exact (Y4.trans X (by simp)).trans X9 (by simp)
 simp (maxDischargeDepth := 8) only [sA]
 refine Qz (RqI S4 r s.next (s.next + 1) N 1048576 bv4 y0 y1 y2 a3 y2.length tot) N (by omega) ⟨[], x4, .slice none 0 0, bv4, rfl, rfl, ?_, gB4, SlC.nil, by simp [blk], I4, fun _ h => h, .refl, G4, B4, L4, htot'⟩ ?_
 · simp (maxDischargeDepth := 8) only [sA, sM, Nat.reduceLT]
   rfl
 rintro n ⟨t, S, ds⟩ hn ⟨l, st, lv, bv1, hnl, hds, ⟨t0, t2, t4, t5, t6⟩, g1, sk, bk, I, b, X, G, B, L, ht⟩
 simp only at hds t0 t2 t4 t5 t6 g1 sk I X G
 subst hds
 have gr := I.gr
 have leX := X.le
 have w1 : S.wr (s.next + 1) = true := X.wrs (w4 1)
 cases n with
 | zero =>
  have e0 : ¬ (l.length : Int) < (N : Int) := by omega
  simp only [sA, zc, zp, zl, Nat.reduceEqDiff, t0, t2, t4, t5, t6, e0]
  exact fin _ _ l st lv bv1 ht.symm ⟨by simp only [sA, reduceCtorEq, t0, t2, t4], by simp only [sA, Nat.reduceEqDiff, t0, t2, t4], by simp only [sA, Nat.reduceEqDiff, t0, t2, t4]⟩ g1 sk bk I b X G B L
 | succ n =>
  have e1 : (l.length : Int) < (N : Int) := by omega
  cases hst : st.2 with
  | true =>
   rw [hst] at gr
   simp only [sA, zc, zp, zl, Nat.reduceEqDiff, Cells.get, getN, reduceCtorEq, t0, t2, t4, t5, t6, gr, e1]
   exact fin _ _ l st lv bv1 (by rw [← ht]; exact W0 _ _ _ hst) ⟨by simp only [sA, reduceCtorEq, t0, t2, t4], by simp only [sA, Nat.reduceEqDiff, t0, t2, t4], by simp only [sA, Nat.reduceEqDiff, t0, t2, t4]⟩ g1 sk bk I b X G B L
  | false =>
   rw [hst] at gr
   have hrS := DS.get_lt' gr
   have hIlt := I.sl.lt
   have g1lt := DS.get_lt' g1
   have hbl : ∀ k, k ∈ blk bv1 → k < s.next := fun k hk => h.sl.lt k (b4' k (b k hk))
   obtain ⟨alv, clv, hlv⟩ := (SlC.toI sk).shape
   subst hlv
   simp only [sA, zc, zp, zl, Nat.reduceEqDiff, Cells.get, getN, reduceCtorEq, foot, t0, t2, t4, t5, t6, gr, e1, g1]
   refine W.masked (hR.fr _) (Wu hR (d := d + 1) (bs := st.1) (bad := st.2) ⟨(z6 ?_).trans I.gr, Qh I.wr ?_ ?_, SlR.of' I.sl fun k hk => z6 ?_, I.ne⟩ (Yq G fun k hk => ?_) B L) ?_
   · (simp only [hidden, shielded, noteAt, zM, Bool.or_false, Bool.or_eq_false_iff, Bool.and_eq_false_iff, Ze, Zm, Zn, true_and, and_true, true_or, or_true] <;> omega)
   · (simp only [hidden, shielded, noteAt, zM, Bool.or_false, Bool.or_eq_false_iff, Bool.and_eq_false_iff, Ze, Zm, Zn, true_and, and_true, true_or, or_true] <;> omega)
   · (simp only [hidden, shielded, noteAt, zM, Bool.or_false, Bool.or_eq_false_iff, Bool.and_eq_false_iff, Ze, Zm, Zn, true_and, and_true, true_or, or_true] <;> omega)
   · have := hbl k hk
     (simp only [hidden, shielded, noteAt, zM, Bool.or_false, Bool.or_eq_false_iff, Bool.and_eq_false_iff, Ze, Zm, Zn, true_and, and_true, true_or, or_true] <;> omega)
   · exact ⟨by (simp only [hidden, shielded, noteAt, zM, Bool.or_false, Bool.or_eq_false_iff, Bool.and_eq_false_iff, Ze, Zm, Zn, true_and, and_true, true_or, or_true] <;> omega), by (simp only [hidden, shielded, noteAt, zM, Bool.or_false, Bool.or_eq_false_iff, Bool.and_eq_false_iff, Ze, Zm, Zn, true_and, and_true, true_or, or_true] <;> omega)⟩
   rintro v5 s5' ⟨bv5, R5, I5', X5', b5⟩ df
   simp only at R5 I5' X5' b5
   have hsame : ∀ k, (Zg S s5').get k = s5'.get k := fun k => YJ (by (simp only [hidden, shielded, noteAt, zM, Bool.or_false, Bool.or_eq_false_iff, Bool.and_eq_false_iff, Ze, Zm, Zn, true_and, and_true, true_or, or_true] <;> omega)) X5'
   have X5 := Ext.unmask' X5' df
   obtain ⟨s5, hs5⟩ : ∃ s5 : DS, s5 = Zg S s5' := ⟨_, rfl⟩
   have n5 : s5'.next = s5.next := by rw [hs5]; rfl
   have I5 : zI s5 r bv5 _ _ := ⟨by rw [hs5, hsame]; exact I5'.gr, by rw [hs5, Xs]; exact I.wr, SlR.of' I5'.sl fun k _ => by rw [hs5]; exact hsame k, I5'.ne⟩
   rw [← hs5] at X5
   have R5 : v5 = _ := R5
   subst R5
   simp only [sA, Nat.reduceEqDiff, Nat.reduceLeDiff, zi, repeatZ, foot, ← hs5, n5]
   obtain ⟨x, hx⟩ : ∃ x, x = (rdN 8 0 (st.1, st.2)).1 := ⟨_, rfl⟩
   rw [show ((st.1, st.2) : RS) = st from rfl] at I5 hx
   rw [show ((st.1, st.2) : RS) = st from rfl]
   rw [← hx]
   obtain ⟨S6, hS6⟩ : ∃ S6 : DS, S6 = s5.new (.cells (.list [.int .i64 x]) false) := ⟨_, rfl⟩
   rw [← hS6]
   have G5 := X5.good G
   have X6 : ∀ F, Ext F s5 S6 := fun F => by rw [hS6]; exact Ext.new
   have n6 : S6.next = s5.next + 1 := by rw [hS6]; rfl
   have g6 : S6.get s5.next = some (.cells (.list [.int .i64 x]) false) := by rw [hS6]; exact DS.new_get_self G5
   have hw : SlV S6 1 (.slice (some ⟨s5.next, 0, none⟩) 1 1) [[.int .i64 x]] := .inr ⟨s5.next, 0, none, 1, rfl, by unfold DS.read; rw [g6]; rfl⟩
   have hlm : (ints l).length = l.length := J2 l
   have le5 := X5.le
   refine W.mono (DU ((sk.keep X5 fun k hk => by have := bk k hk; simp; omega).keep (X6 []) (by simp)) hw (Js l) (Js [x]) ((X6 []).good G5) (by rw [hlm]; simp; omega) (by rw [hlm]; simp; omega)) ?_
   rintro ⟨lv7, S7⟩ ⟨sk7, X7, b7, _⟩
   simp only at sk7 X7 b7
   have sk7 : SlC S7 1 lv7 (ints (l ++ [x])) := by rw [show ints (l ++ [x]) = ints l ++ [[.int .i64 x]] by simp [ints]]; exact sk7
   obtain ⟨a7, c7, hlv7⟩ := (SlC.toI sk7).shape
   subst hlv7
   have g7 := X7.keep ((X6 []).keep (X5.keep g1 (by simp; omega)) (by simp)) (fun hk => by have := bk _ hk; omega)
   have w7 : S7.wr (s.next + 1) = true := X7.wrs ((X6 []).wrs (X5.wrs w1))
   have e2 : zw .i64 ((l.length : Int) + 1) = ((l.length + 1 : Nat) : Int) := by rw [ZF (by omega) (by omega)]; omega
   have hb5 : ∀ k, k ∈ blk bv5 → k < s.next := fun k hk => hbl k (b5 k hk)
   obtain ⟨k8, hk8⟩ := (zA 8 0).suf st
   have le7 := X7.le
   have bk7 : ∀ k, k ∈ blk (.slice a7 (l ++ [x]).length c7) → S4.next ≤ k := fun k hk => by
    rcases b7 k hk with h | h
    · exact bk k h
    · omega
   simp only [sA, zc, zp, zl, Nat.reduceEqDiff, Nat.reduceAdd, zh, zg, Nat.reduceLeDiff, DS.wrC, Cells.size, Cells.fillFrom, Cells.set, zt, foot, t0, t2, t4, t5, t6, g7, w7, e2]
   have U : ∀ o, Ext [s.next + 1] S7 (S7.upd (s.next + 1) o) := fun o => Ext.upd (.inl (by simp))
   refine ⟨n, by omega, ⟨l ++ [x], (rdN 8 0 st).2, .slice a7 (l ++ [x]).length c7, bv5, by simp; omega, rfl, ⟨by simp only [sA, reduceCtorEq, t0, t2, t4, t5, t6], by simp only [sA, Nat.reduceEqDiff, t0, t2, t4, t5, t6], by simp only [sA, Nat.reduceEqDiff, t0, t2, t4, t5, t6], by simp only [sA, Nat.reduceEqDiff, t0, t2, t4, t5, t6], by simp only [sA, t0, t2, t4, t5, t6]⟩, ?_, sk7.keep (U _) (fun k hk => by have := bk7 k hk; simp; omega), bk7, ((I5.keep (X6 []) (by simp) (by simp)).keep X7 (fun hk => by have := bk _ hk; omega) (fun k hk hk2 => by have := bk _ hk2; have := hb5 _ hk; omega)).keep (U _) (by simp; omega) (fun k hk => by have := hb5 _ hk; simp; omega), fun k hk => b k (b5 k hk), ?_, ?_, by rw [hk8]; exact B.drop k8, by rw [hk8]; simp; omega, ?_⟩⟩
   · rw [DS.upd_get_self, g7]
     simp
   · exact ((((X.trans' (X5.weaken (by simp))).trans' (X6 _)).trans X7 fun k hk => .inr (bk k hk))).trans' ((U _).weaken (by simp))
   · rw [DS.upd_good]
     exact X7.good ((X6 []).good G5)
   · rw [← ht, Z1, if_neg (by rw [hst]; simp), hx]
end
end Go.Dx.TbA
namespace Go.Dx.TbA
open Go Go.Dx Go.Dx.Tab Go.Proofs.YthmgnfeljhdioaaGreat
theorem WY : ∀ r : List Int, Zz (u8s r) = some (r.map fun n => UInt8.ofNat n.toNat)
 | [] => rfl
 | n :: r => by
  show (match Zz (u8s r) with | some l => some (UInt8.ofNat n.toNat :: l) | none => none) = _
  rw [WY r]; rfl
theorem CF (bs : List Int) : GH .eql ⟨⟨bs.map fun n => UInt8.ofNat n.toNat⟩⟩ ⟨⟨bs.map fun n => UInt8.ofNat n.toNat⟩⟩ = some (.bool true) := by
 show some (Value.bool (Yi _ _)) = _
 rw [Z2, beq_self_eq_true]
def XY.zero : XY := ((0, 0), ([], ([], 0)))
theorem Di (n : Nat) (s : DS) : ZV n s [.int .i64 0, .int .i64 0, .slice none 0 0, .slice none 0 0, .int .i64 0] XY.zero :=
 ⟨none, 0, none, 0, rfl, ⟨.inl ⟨rfl, rfl⟩, fun k hk => by simp [blk] at hk⟩, ⟨.inl ⟨rfl, rfl⟩, fun k hk => by simp [blk] at hk⟩⟩
noncomputable def Jh (bs : List Int) : XY := open Classical in if Yz bs then (rdQ (bs, false)).1 else XY.zero
section
variable {E : Env} (hR : QP E) {s : DS} {d : Nat} {bv : Value} {bs : List Int}
include hR
theorem Tw (h17 : E.fn 17 = some d17) (i17 : E.intr 17 = none) (hcode : E.fn 39 = some d39) (hintr : E.intr 39 = none) (hf : E.fn 10 = some d10) (hi : E.intr 10 = none)
 (hv : SlR s bv bs) (hG : s.Good) (hB : IsB bs) (hl : bs.length ≤ 1048576) :
 W (dcall E (d + 6) (.func (.func 17) #[] #[]) [bv] s) fun p => Ext [] s p.2 ∧ ∃ cs b, p.1 = .tuple ⟨[.agg ⟨cs⟩, .bool b]⟩ ∧ ZV s.next p.2 cs (Jh bs) ∧ (b = true ↔ Yz bs) := by
 obtain ⟨ba, bc, hbv⟩ := hv.len
 have hvl := hv.lt
 refine zD fun Q hQ => ?_
 rw [zn i17 h17 rfl]
 subst hbv
 simp (maxDischargeDepth := 8) only [sA, sM, Nat.reduceAdd, Nat.reduceLeDiff, zi, pp, pv, pw, pg, d17, hG]
 obtain ⟨S1, hS1⟩ : ∃ S1 : DS, S1 = (s.new (.cells (.list [.int .i64 0, .int .i64 0, .slice none 0 0, .slice none 0 0, .int .i64 0]) false)).new (.cells (.list [.slice ba bs.length bc, .bool false]) false) := ⟨_, rfl⟩
 rw [← hS1]
 have X1 : ∀ F, Ext F s S1 := fun F => by rw [hS1]; exact Ext.new.trans' Ext.new
 have n1 : S1.next = s.next + 2 := by rw [hS1]; rfl
 have gB : S1.get s.next = some (.cells (.list [.int .i64 0, .int .i64 0, .slice none 0 0, .slice none 0 0, .int .i64 0]) false) := by rw [hS1]; simp (maxDischargeDepth := 8) only [sM, ZY, hG]
 have gI : S1.get (s.next + 1) = some (.cells (.list [.slice ba bs.length bc, .bool false]) false) := by rw [hS1]; simp (maxDischargeDepth := 8) only [sM, ZY, hG]
 have G1 := (X1 []).good hG
 have w1 : ∀ k, S1.wr (s.next + k) = true := fun k => by rw [(X1 []).wr]; exact (hG _ (by omega)).2
 have I1 : zI S1 (s.next + 1) (.slice ba bs.length bc) bs false := ⟨gI, w1 1, hv.keep (X1 []) (by simp), fun h => by have := hvl _ h; omega⟩
 refine W.mono (Ct hR (d := d) hcode hintr hf hi I1 G1 hB hl) ?_
 rintro ⟨v2, s2⟩ ⟨cs, hv2, hQa, bv2, I2, X2, b2⟩
 simp only at hv2 hQa I2 X2 b2
 subst hv2
 have G2 := X2.good G1
 have le2 := X2.le
 have hB2 := X2.keep gB (by simp)
 have w2 : ∀ k, s2.wr (s.next + k) = true := fun k => X2.wrs (w1 k)
 have w20 : s2.wr s.next = true := w2 0
 have gr2 := I2.gr
 obtain ⟨a2, c2, hb2⟩ := I2.sl.len
 rw [hb2] at gr2
 have l0 : s.next < s2.next := by omega
 have l1 : s.next + 1 < s2.next := by omega
 have hQb := hQa
 obtain ⟨b1, c1, b2', c2', hcs, _, _⟩ := hQb
 obtain ⟨x, hx⟩ : ∃ x, x = (rdQ (bs, false)).1 := ⟨_, rfl⟩
 rw [← hx] at hQa hcs ⊢
 subst hcs
 have U : ∀ o1 o2 o3, Ext [s.next] s2 (((s2.new o1).upd s2.next o2).upd s.next o3) := fun o1 o2 o3 => by
  have u1 : Ext [s.next] s2 (s2.new o1) := Ext.new
  have u2 : Ext [s2.next] (s2.new o1) ((s2.new o1).upd s2.next o2) := Ext.upd (.inl (by simp))
  have u3 : Ext [s.next] s2 ((s2.new o1).upd s2.next o2) := u1.trans u2 (by simp)
  have u4 : Ext [s.next] ((s2.new o1).upd s2.next o2) (((s2.new o1).upd s2.next o2).upd s.next o3) := Ext.upd (.inl (List.mem_cons_self ..))
  exact u3.trans' u4
 have V : ∀ o1 o2 o3, Ext [] s (((s2.new o1).upd s2.next o2).upd s.next o3) := fun o1 o2 o3 => ((X1 []).trans X2 (by simp)).trans (U o1 o2 o3) (by simp)
 have bad : ∀ o1 o2 o3, ¬ Yz bs → Q (.tuple ⟨[.agg ⟨[.int .i64 0, .int .i64 0, .slice none 0 0, .slice none 0 0, .int .i64 0]⟩, .bool false]⟩, ((s2.new o1).upd s2.next o2).upd s.next o3) := fun o1 o2 o3 hng =>
  hQ _ ⟨V _ _ _, _, _, rfl, by unfold Jh; rw [if_neg hng]; exact Di _ _, ⟨fun h => (nomatch h), fun h => absurd h hng⟩⟩
 by_cases hok : (rdQ (bs, false)).2.2 = false ∧ QQ x
 · rw [decide_eq_true hok]
   by_cases hr : (rdQ (bs, false)).2.1 = []
   · have e1 : ¬ (0 : Int) < ((rdQ (bs, false)).2.1.length : Int) := by rw [hr]; simp
     have hg : Yz bs := ⟨⟨hok.1, hr⟩, by rw [← hx]; exact hok.2⟩
     simp (maxDischargeDepth := 8) only [sA, sM, zc, zp, zl, zk, za, zf, Cells.get, getN, Nat.reduceAdd, zh, zg, DS.wrC, Cells.size, Cells.fillFrom, Cells.set, zt, ldA, DS.read, Cells.take, Nat.reduceLT, hB2, w20, gr2, G2, l0, l1, e1]
     refine hQ _ ⟨V _ _ _, _, _, rfl, ?_, ⟨fun _ => hg, fun _ => rfl⟩⟩
     unfold Jh
     rw [if_pos hg, ← hx]
     exact (hQa.stab (U _ _ _) (by simp; omega)).mono (by omega)
   · have e1 : (0 : Int) < ((rdQ (bs, false)).2.1.length : Int) := by have := List.length_pos_iff.2 hr; omega
     simp (maxDischargeDepth := 8) only [sA, sM, zc, zp, zl, zk, za, zf, Cells.get, getN, Nat.reduceAdd, zh, zg, DS.wrC, Cells.size, Cells.fillFrom, Cells.set, zt, zi, DS.read, Cells.take, Nat.reduceLT, hB2, w20, gr2, G2, l0, l1, e1]
     exact bad _ _ _ fun h => hr h.1.2
 · rw [decide_eq_false hok]
   simp (maxDischargeDepth := 8) only [sA, sM, zc, zk, za, zf, Cells.get, getN, Nat.reduceAdd, zh, zg, DS.wrC, Cells.size, Cells.fillFrom, Cells.set, zt, zi, DS.read, Cells.take, Nat.reduceLT, hB2, w20, gr2, G2, l0, l1]
   exact bad _ _ _ fun h => hok ⟨h.1.1, by rw [hx]; exact h.2⟩
end
structure SmI (S : DS) (p0 p1 len : Nat) (n : Nat) (y : St) : Prop where
 ex : ∃ i : Nat, n + i = len ∧ y.defers = [] ∧ y.s = S ∧ y.t.get 2 = some (.pointer (some ⟨p0, 0, none⟩)) ∧ y.t.get 3 = some (.pointer (some ⟨p1, 0, none⟩)) ∧ y.t.get 5 = some (.int .i64 (i : Int))
def Dt : DCode := (.seq (.seq (.region [pp 5 (.mv (.const (.int .i64 0)))]) (.block 0 (.loop (.seq (.seq (.region [pv 43 5, pp 44 (.fadr 3 (tm 2)), pp 45 (.ld none (tm 44)), pp 46 (.blenL (tm 45)), pp 47 (.bin .lss (tm 43) (tm 46))]) (.cond (tm 47) (.skip) (.exit 0))) (.seq (.block 1 (.seq (.region [pp 50 (.fadr 3 (tm 2)), pp 51 (.ld none (tm 50)), pv 52 5, pp 53 (.ixL 1 (tm 51) (tm 52)), pp 54 (.ld none (tm 53)), pp 55 (.fadr 3 (tm 3)), pp 56 (.ld none (tm 55)), pv 57 5, pp 58 (.ixL 1 (tm 56) (tm 57)), pp 59 (.ld none (tm 58)), pp 60 (.bin .neq (tm 54) (tm 59))]) (.cond (tm 60) (.seq (.region [pp 4 (.mv (.const (.bool false)))]) (.ret)) (.skip)))) (.region [pv 48 5, pp 49 (.bin .add (tm 48) (.const (.int .i64 1))), pv 5 49])))))) (.seq (.region [pp 4 (.mv (.const (.bool true)))]) (.ret)))
def dSm : ze := { ntmps := 61, results := [.tmp 4], body := .seq (.region [pp 2 (.box (tm 0)), pp 3 (.box (tm 1)), pp 4 (.mv (.const (.bool false)))]) (.seq (.seq (.region [pp 6 (.fadr 0 (tm 2)), pp 7 (.ld none (tm 6)), pp 8 (.fadr 0 (tm 3)), pp 9 (.ld none (tm 8)), pp 10 (.bin .neq (tm 7) (tm 9)), pv 11 10, pg 12 (.fadr 1 (tm 2)) 11 false, pg 13 (.ld none (tm 12)) 11 false, pg 14 (.fadr 1 (tm 3)) 11 false, pg 15 (.ld none (tm 14)) 11 false, pg 16 (.bin .neq (tm 13) (tm 15)) 11 false, pp 17 (.pick (tm 11) (.const (.bool true)) (tm 16)), pv 18 17, pg 19 (.fadr 2 (tm 2)) 18 false, pg 20 (.ld none (tm 19)) 18 false, pg 21 (.cvToStr (tm 20)) 18 false, pg 22 (.fadr 2 (tm 3)) 18 false, pg 23 (.ld none (tm 22)) 18 false, pg 24 (.cvToStr (tm 23)) 18 false, pg 25 (.bin .neq (tm 21) (tm 24)) 18 false, pp 26 (.pick (tm 18) (.const (.bool true)) (tm 25)), pv 27 26, pg 28 (.fadr 4 (tm 2)) 27 false, pg 29 (.ld none (tm 28)) 27 false, pg 30 (.fadr 4 (tm 3)) 27 false, pg 31 (.ld none (tm 30)) 27 false, pg 32 (.bin .neq (tm 29) (tm 31)) 27 false, pp 33 (.pick (tm 27) (.const (.bool true)) (tm 32)), pv 34 33, pg 35 (.fadr 3 (tm 2)) 34 false, pg 36 (.ld none (tm 35)) 34 false, pg 37 (.blenL (tm 36)) 34 false, pg 38 (.fadr 3 (tm 3)) 34 false, pg 39 (.ld none (tm 38)) 34 false, pg 40 (.blenL (tm 39)) 34 false, pg 41 (.bin .neq (tm 37) (tm 40)) 34 false, pp 42 (.pick (tm 34) (.const (.bool true)) (tm 41))]) (.cond (tm 42) (.seq (.region [pp 4 (.mv (.const (.bool false)))]) (.ret)) (.skip))) Dt) }
theorem Nc : d13 = dSm := rfl
section
variable {E : Env} {d : Nat}
theorem PR {S : DS} {p0 p1 : Nat} {x : XY} {v1 v2 m1 m2 : Value} {t : PT Value} {Q : Value × DS → Prop} (hlf : 10000 ≤ E.lf) (h8 : x.2.2.1.length ≤ 8)
 (g0 : S.get p0 = some (.cells (.list [.int .i64 x.1.1, .int .i64 x.1.2, m1, v1, .int .i64 x.2.2.2]) false)) (g1 : S.get p1 = some (.cells (.list [.int .i64 x.1.1, .int .i64 x.1.2, m2, v2, .int .i64 x.2.2.2]) false))
 (h1 : SlI S v1 x.2.2.1) (h2 : SlI S v2 x.2.2.1) (t2 : t.get 2 = some (.pointer (some ⟨p0, 0, none⟩))) (t3 : t.get 3 = some (.pointer (some ⟨p1, 0, none⟩))) (hQ : Q (.bool true, S)) :
 WC (dcall E d) E.lf false Dt ⟨t, S, []⟩ (Ends [.tmp 4] Q) := by
 obtain ⟨a1, c1, e1⟩ := h1.shape
 obtain ⟨a2, c2, e2⟩ := h2.shape
 simp only [sA, pp, pv, Dt, t2, t3]
 refine Qz (SmI S p0 p1 x.2.2.1.length) x.2.2.1.length (by omega) ⟨0, by omega, rfl, rfl, by simp only [sA, Nat.reduceEqDiff, t2], by simp only [sA, Nat.reduceEqDiff, t3], by simp only [Yt]; rfl⟩ ?_
 rintro n ⟨t, S', ds⟩ hn ⟨i, hni, hds, hs, t2, t3, t5⟩
 simp only at hds hs t2 t3 t5
 subst hds hs
 cases n with
 | zero =>
  have e0 : ¬ (i : Int) < (x.2.2.1.length : Int) := by omega
  subst e1
  simp only [sA, zc, zp, zl, Nat.reduceEqDiff, za, zf, Cells.get, getN, t2, t3, t5, g0, e0]
  exact hQ
 | succ n =>
  have e0 : (i : Int) < (x.2.2.1.length : Int) := by omega
  have hi : i < x.2.2.1.length := by omega
  have hx : x.2.2.1[i]? = some x.2.2.1[i] := List.getElem?_eq_getElem hi
  have ea : zw .i64 ((i : Int) + 1) = ((i + 1 : Nat) : Int) := by rw [ZF (by omega) (by omega)]; omega
  rcases h1 with ⟨_, h0⟩ | ⟨b1, sp1, c1', cc1, ro1, rfl, k1, k2⟩
  · rw [h0] at hi
    exact absurd hi (by simp)
  rcases h2 with ⟨_, h0⟩ | ⟨b2, sp2, c2', cc2, ro2, rfl, k3, k4⟩
  · rw [h0] at hi
    exact absurd hi (by simp)
  have k2 := k2 i _ hx
  have k4 := k4 i _ hx
  simp only [Cells.get] at k2 k4
  simp only [sA, zc, zp, zl, Nat.reduceEqDiff, Cells.get, getN, t2, t3, t5, g0, g1, e0, k1, k2, k3, k4, hi, ea]
  exact ⟨n, by omega, ⟨i + 1, by omega, rfl, rfl, by simp only [sA, Nat.reduceEqDiff, t2], by simp only [sA, Nat.reduceEqDiff, t3], by simp only [Yt]⟩⟩
theorem SZ (h13 : E.fn 13 = some d13) (i13 : E.intr 13 = none) (hlf : 10000 ≤ E.lf) {s : DS} {n1 n2 : Nat} {cs1 cs2 : List Value} {x : XY} (h8 : x.2.2.1.length ≤ 8) (hG : s.Good) (r1 : ZV n1 s cs1 x) (r2 : ZV n2 s cs2 x) :
 W (dcall E (d + 1) (.func (.func 13) #[] #[]) [.agg ⟨cs1⟩, .agg ⟨cs2⟩] s) fun p => p.1 = .bool true ∧ Ext [] s p.2 := by
 obtain ⟨b1, c1, b2, c2, rfl, m1, a1⟩ := r1
 obtain ⟨b3, c3, b4, c4, rfl, m2, a2⟩ := r2
 refine zD fun Q hQ => ?_
 rw [zn i13 (show E.fn 13 = some dSm from by rw [← Nc]; exact h13) rfl]
 obtain ⟨S1, hS1⟩ : ∃ S1 : DS, S1 = (s.new (.cells (.list [.int .i64 x.1.1, .int .i64 x.1.2, .slice b1 x.2.1.length c1, .slice b2 x.2.2.1.length c2, .int .i64 x.2.2.2]) false)).new (.cells (.list [.int .i64 x.1.1, .int .i64 x.1.2, .slice b3 x.2.1.length c3, .slice b4 x.2.2.1.length c4, .int .i64 x.2.2.2]) false) := ⟨_, rfl⟩
 have X1 : ∀ F, Ext F s S1 := fun F => by rw [hS1]; exact Ext.new.trans' Ext.new
 have g0 : S1.get s.next = some (.cells (.list [.int .i64 x.1.1, .int .i64 x.1.2, .slice b1 x.2.1.length c1, .slice b2 x.2.2.1.length c2, .int .i64 x.2.2.2]) false) := by rw [hS1]; simp (maxDischargeDepth := 8) only [sM, ZY, hG]
 have g1 : S1.get (s.next + 1) = some (.cells (.list [.int .i64 x.1.1, .int .i64 x.1.2, .slice b3 x.2.1.length c3, .slice b4 x.2.2.1.length c4, .int .i64 x.2.2.2]) false) := by rw [hS1]; simp (maxDischargeDepth := 8) only [sM, ZY, hG]
 have hm1 := m1.1.keep (X1 []) (by simp)
 have hm2 := m2.1.keep (X1 []) (by simp)
 have ha1 := a1.1.keep (X1 []) (by simp)
 have ha2 := a2.1.keep (X1 []) (by simp)
 have hTN : GH .neq ⟨⟨x.2.1.map fun n => UInt8.ofNat n.toNat⟩⟩ ⟨⟨x.2.1.map fun n => UInt8.ofNat n.toNat⟩⟩ = some (.bool false) := by
  show some (Value.bool (!(Yi _ _))) = _
  rw [Z2, beq_self_eq_true]
  rfl
 have dN : GH .neq ⟨⟨[]⟩⟩ ⟨⟨[]⟩⟩ = some (.bool false) := rfl
 have htb := WY x.2.1
 have ii : ∀ z : Int, (z = z) = True := fun z => eq_true rfl
 simp (maxDischargeDepth := 8) only [sA, sM, zc, Cells.get, pp, pv, pg, Nat.reduceLT, dSm, hG, ← hS1]
 have fin : ∀ t : PT Value, t.get 2 = some (.pointer (some ⟨s.next, 0, none⟩)) → t.get 3 = some (.pointer (some ⟨s.next + 1, 0, none⟩)) → WC (dcall E d) E.lf false Dt ⟨t, S1, []⟩ (Ends [.tmp 4] Q) := fun t t2 t3 => PR hlf h8 g0 g1 ha1 ha2 t2 t3 (hQ _ ⟨rfl, X1 _⟩)
 clear hS1
 rcases hm1 with ⟨hv1, hb1⟩ | ⟨k1, o1, sp1, cc1, hv1, _, _, hrd1⟩
 · rcases hm2 with ⟨hv5, _⟩ | ⟨k5, o5, sp5, cc5, hv5, _, _, hrd5⟩
   · rw [hv1] at g0
     rw [hv5] at g1
     simp (maxDischargeDepth := 8) only [sA, sM, zc, zp, zl, zk, Cells.get, getN, Nat.reduceLT, g0, g1, ii, dN]
     exact fin _ (by simp only [sA, Nat.reduceEqDiff]) (by simp only [sA, Nat.reduceEqDiff])
   · rw [hv1] at g0
     rw [hv5] at g1
     have hr0 : S1.read k5 o5 0 = some [] := by rw [hb1] at hrd5; exact hrd5
     have t0 : Zz [] = some [] := rfl
     simp (maxDischargeDepth := 8) only [sA, sM, zc, zp, zl, zk, Cells.get, getN, Nat.reduceLT, g0, g1, ii, hb1, hr0, t0, dN]
     exact fin _ (by simp only [sA, Nat.reduceEqDiff]) (by simp only [sA, Nat.reduceEqDiff])
 · rcases hm2 with ⟨hv5, hb5⟩ | ⟨k5, o5, sp5, cc5, hv5, _, _, hrd5⟩
   · rw [hv1] at g0
     rw [hv5] at g1
     have hr0 : S1.read k1 o1 0 = some [] := by rw [hb5] at hrd1; exact hrd1
     have t0 : Zz [] = some [] := rfl
     simp (maxDischargeDepth := 8) only [sA, sM, zc, zp, zl, zk, Cells.get, getN, Nat.reduceLT, g0, g1, ii, hb5, hr0, t0, dN]
     exact fin _ (by simp only [sA, Nat.reduceEqDiff]) (by simp only [sA, Nat.reduceEqDiff])
   · rw [hv1] at g0
     rw [hv5] at g1
     simp (maxDischargeDepth := 8) only [sA, sM, zc, zp, zl, zk, Cells.get, getN, Nat.reduceLT, g0, g1, ii, hrd1, hrd5, htb, hTN]
     exact fin _ (by simp only [sA, Nat.reduceEqDiff]) (by simp only [sA, Nat.reduceEqDiff])
end
end Go.Dx.TbA
namespace Go.Dx.TbA
open Go Go.Dx Go.Dx.Tab Go.Proofs.YthmgnfeljhdioaaGreat
theorem ZV.keepLt {n : Nat} {s s' : DS} {v : List Value} {x : XY} {F : List Nat} (h : ZV n s v x) (e : Ext F s s') (hF : ∀ k, k ∈ F → s.next ≤ k) : ZV n s' v x := by
 obtain ⟨b1, c1, b2, c2, h0, h1, h2⟩ := h
 exact ⟨b1, c1, b2, c2, h0, ⟨h1.1.keep e fun k hk hf => by have := h1.1.lt k hk; have := hF k hf; omega, h1.2⟩, ⟨h2.1.keep e fun k hk hf => by have := h2.1.lt k hk; have := hF k hf; omega, h2.2⟩⟩
def Du : DCode := (.seq (.region [pp 55 (.call (.func 6) []), pv 56 55, pg 57 (.ld (some 5) (tm 4)) 56 true, pg 58 (.ld (some 5) (tm 6)) 56 true, pg 59 (.call (.func 13) [.tmp 57, .tmp 58]) 56 true, pp 60 (.pick (tm 56) (tm 59) (.const (.bool false))), pv 61 60, pw 62 5 61 true, pg 63 (.bin .eql (tm 62) (.const (.int .i64 0))) 61 true, pw 64 7 61 true, pg 65 (.eq false (.one .bool) (tm 63) (tm 64)) 61 true, pp 66 (.pick (tm 61) (tm 65) (.const (.bool false))), pv 67 66, pw 68 7 67 true, pw 69 68 67 true, pw 70 5 69 false, pg 71 (.bin .eql (tm 70) (.const (.int .i64 10))) 69 false, pg 72 (.pick (tm 69) (.const (.bool true)) (tm 71)) 67 true, pp 73 (.pick (tm 67) (tm 72) (.const (.bool false))), pv 74 73, pg 75 (.ld (some 6) (tm 8)) 74 true, pg 76 (.ld (some 6) (tm 11)) 74 true, pg 77 (.eq false (.struct [(0, 1, .one .int), (1, 1, .one .int), (2, 1, .one .bool), (3, 1, .one .int), (4, 1, .one .int), (5, 1, .one .int)]) (tm 75) (tm 76)) 74 true, pp 78 (.pick (tm 74) (tm 77) (.const (.bool false))), pv 79 78, pw 80 9 79 true, pg 81 (.bin .eql (tm 80) (.const (.int .i64 0))) 79 true, pw 82 12 79 true, pg 83 (.eq false (.one .bool) (tm 81) (tm 82)) 79 true, pp 84 (.pick (tm 79) (tm 83) (.const (.bool false))), pv 85 84, pw 86 12 85 true, pw 87 86 85 true, pw 88 9 87 false, pg 89 (.bin .eql (tm 88) (.const (.int .i64 10))) 87 false, pg 90 (.pick (tm 87) (.const (.bool true)) (tm 89)) 85 true, pp 91 (.pick (tm 85) (tm 90) (.const (.bool false))), pv 92 91, pw 93 3 92 true, pg 94 (.cvToStr (tm 93)) 92 true, pw 95 0 92 true, pg 96 (.cvToStr (tm 95)) 92 true, pg 97 (.bin .eql (tm 94) (tm 96)) 92 true, pp 98 (.pick (tm 92) (tm 97) (.const (.bool false))), pv 2 98]) (.ret))
def dLo : ze := { ntmps := 99, results := [.tmp 2], body := .seq (.region [pp 2 (.mv (.const (.bool false)))]) (.seq (.seq (.region [pv 13 0, pp 14 (.blenL (tm 13)), pp 15 (.bin .gtr (tm 14) (.const (.int .i64 131072)))]) (.cond (tm 15) (.seq (.region [pp 16 (.call (.func 6) []), pv 2 16]) (.ret)) (.skip))) (.seq (.region [pp 17 (.bslice 0 1 [.int .u8 0] []), pv 18 0, pp 19 (.bapp 1 1 (tm 17) (tm 18)), pv 3 19]) (.seq (.region [pv 21 3, pp 22 (.call (.func 12) [.tmp 21]), pv 20 22, pp 23 (.ext (tm 20) 0), pp 24 (.ext (tm 20) 1), pp 4 (.alloc [.int .i64 0, .int .i64 0, .slice none 0 0, .slice none 0 0, .int .i64 0]), ⟨none, .st 5 (tm 4) (tm 23), none, [], false⟩, pv 5 24]) (.seq (.region [pv 26 0, pp 27 (.call (.func 17) [.tmp 26]), pv 25 27, pp 28 (.ext (tm 25) 0), pp 29 (.ext (tm 25) 1), pp 6 (.alloc [.int .i64 0, .int .i64 0, .slice none 0 0, .slice none 0 0, .int .i64 0]), ⟨none, .st 5 (tm 6) (tm 28), none, [], false⟩, pv 7 29]) (.seq (.region [pv 31 3, pp 32 (.call (.func 15) [.tmp 31]), pv 30 32, pp 33 (.ext (tm 30) 0), pp 34 (.ext (tm 30) 1), pp 8 (.alloc [.int .i64 0, .int .i64 0, .bool false, .int .i64 0, .int .i64 0, .int .i64 0]), ⟨none, .st 6 (tm 8) (tm 33), none, [], false⟩, pv 9 34]) (.seq (.region [pv 35 0, pp 36 (.build [.slice none 0 0, .bool false] [(0, 1, .tmp 35)]), pp 37 (.box (tm 36)), pv 10 37]) (.seq (.region [pv 39 10, pp 40 (.call (.func 18) [.tmp 39]), pv 38 40, pp 41 (.ext (tm 38) 0), pp 42 (.ext (tm 38) 1), pp 11 (.alloc [.int .i64 0, .int .i64 0, .bool false, .int .i64 0, .int .i64 0, .int .i64 0]), ⟨none, .st 6 (tm 11) (tm 41), none, [], false⟩, pv 12 42]) (.seq (.region [pv 43 12, pv 44 43, pw 45 10 44 true, pg 46 (.nilck (tm 45)) 44 true, pg 47 (.fadr 0 (tm 46)) 44 true, pg 48 (.ld none (tm 47)) 44 true, pg 49 (.blenL (tm 48)) 44 true, pg 50 (.bin .eql (tm 49) (.const (.int .i64 0))) 44 true, pp 51 (.pick (tm 44) (tm 50) (.const (.bool false))), pv 12 51]) (.seq (.seq (.region [pv 52 12, pp 53 (.un .not (tm 52))]) (.cond (tm 53) (.region [pp 54 (.build [.int .i64 0, .int .i64 0, .bool false, .int .i64 0, .int .i64 0, .int .i64 0] []), ⟨none, .st 6 (tm 11) (tm 54), none, [], false⟩]) (.skip))) Du))))))))) }
theorem Nf : d4 = dLo := rfl
section
variable {E : Env} {d : Nat}
theorem TK (h13 : E.fn 13 = some d13) (i13 : E.intr 13 = none) (hlf : 10000 ≤ E.lf) (lv : ∀ dd s, dcall E (dd + 1) (.func (.func 6) #[] #[]) [] s = some (.bool true, s))
 {S : DS} {p4 p6 p8 p11 n1 n2 : Nat} {cs1 cs2 : List Value} {x : XY} {bs : List Int} {own b : Value} {r : Rp} {e f : Int} {ok is : Bool} {t : PT Value} (h8 : x.2.2.1.length ≤ 8) (hG : S.Good)
 (r1 : ZV n1 S cs1 x) (r2 : ZV n2 S cs2 x) (g4 : S.get p4 = some (.cells (.list cs1) false)) (g6 : S.get p6 = some (.cells (.list cs2) false)) (g8 : S.get p8 = some (.cells (.list r.cells) false)) (g11 : S.get p11 = some (.cells (.list r.cells) false))
 (hv1 : SlR S own bs) (hv2 : SlR S b bs) (he : (e = 0 ∧ ok = true) ∨ (e = 10 ∧ ok = false)) (hf : (f = 0 ∧ is = true) ∨ (f = 10 ∧ is = false))
 (t0 : t.get 0 = some b) (t3 : t.get 3 = some own) (t4 : t.get 4 = some (.pointer (some ⟨p4, 0, none⟩))) (t5 : t.get 5 = some (.int .i64 e)) (t6 : t.get 6 = some (.pointer (some ⟨p6, 0, none⟩))) (t7 : t.get 7 = some (.bool ok)) (t8 : t.get 8 = some (.pointer (some ⟨p8, 0, none⟩))) (t9 : t.get 9 = some (.int .i64 f)) (t11 : t.get 11 = some (.pointer (some ⟨p11, 0, none⟩))) (t12 : t.get 12 = some (.bool is)) :
 WC (dcall E (d + 1)) E.lf false Du ⟨t, S, []⟩ (Ends [.tmp 2] fun r => r.1 = .bool true) := by
 have r1' := r1
 have r2' := r2
 obtain ⟨b1, c1, b2, c2, q1, m1, a1⟩ := r1'
 obtain ⟨b3, c3, b4, c4, q2, m2, a2⟩ := r2'
 subst q1 q2
 simp (maxDischargeDepth := 8) only [sA, sM, Cells.get, getN, pp, pv, pw, pg, ldA, DS.read, Cells.take, Nat.reduceLT, Du, lv, t4, t6, g4, g6]
 refine W.mono (SZ h13 i13 hlf h8 hG r1 r2) ?_
 rintro ⟨v1, S1⟩ ⟨hv, X1⟩
 simp only at hv X1
 subst hv
 have g8' := X1.keep g8 (by simp)
 have g11' := X1.keep g11 (by simp)
 have hm1 := hv1.keep X1 (by simp)
 have hm2 := hv2.keep X1 (by simp)
 have hTE := CF bs
 have htb := WY bs
 have d0 : GH .eql ⟨⟨[]⟩⟩ ⟨⟨[]⟩⟩ = some (.bool true) := rfl
 have tb0 : Zz [] = some [] := rfl
 have hoo1 : ∀ w, ZN 5000 (.one .bool) (.bool w) (.bool w) = some true := fun w => by simp [ZN, zN]
 have hoo2 : ZN 5000 (.struct [(0, 1, .one .int), (1, 1, .one .int), (2, 1, .one .bool), (3, 1, .one .int), (4, 1, .one .int), (5, 1, .one .int)]) (.agg ⟨r.cells⟩) (.agg ⟨r.cells⟩) = some true := by
  unfold Rp.cells
  simp [ZN, ZG, zN, getN]
 have hl1 : ldA 6 (.pointer (some ⟨p8, 0, none⟩)) S1 = some (.agg ⟨r.cells⟩) := by
  simp only [ldA, DS.read, g8']
  rfl
 have hl2 : ldA 6 (.pointer (some ⟨p11, 0, none⟩)) S1 = some (.agg ⟨r.cells⟩) := by
  simp only [ldA, DS.read, g11']
  rfl
 have ii : ∀ z : Int, (z = z) = True := fun z => eq_true rfl
 have tt : ∀ z : Bool, (z == z) = true := fun z => by simp
 rcases hm1 with ⟨rfl, hb1⟩ | ⟨k1, o1, sp1, cc1, rfl, _, _, hrd1⟩
 · rcases hm2 with ⟨rfl, _⟩ | ⟨k5, o5, sp5, cc5, rfl, _, _, hrd5⟩
   · rcases he with ⟨rfl, rfl⟩ | ⟨rfl, rfl⟩ <;> rcases hf with ⟨rfl, rfl⟩ | ⟨rfl, rfl⟩ <;> (simp (maxDischargeDepth := 8) only [sA, sM, zc, zp, zl, zk, za, zf, Int.reduceEq, Nat.reduceLT, t0, t3, t5, t7, t8, t9, t11, t12, SI, hoo1, hoo2, hl1, hl2, ii, tt, d0])
   · have hr0 : S1.read k5 o5 0 = some [] := by rw [hb1] at hrd5; exact hrd5
     rcases he with ⟨rfl, rfl⟩ | ⟨rfl, rfl⟩ <;> rcases hf with ⟨rfl, rfl⟩ | ⟨rfl, rfl⟩ <;> (simp (maxDischargeDepth := 8) only [sA, sM, zc, zp, zl, zk, za, zf, Int.reduceEq, Nat.reduceLT, t0, t3, t5, t7, t8, t9, t11, t12, SI, hoo1, hoo2, hl1, hl2, ii, tt, hb1, hr0, tb0, d0])
 · rcases hm2 with ⟨rfl, hb5⟩ | ⟨k5, o5, sp5, cc5, rfl, _, _, hrd5⟩
   · have hr0 : S1.read k1 o1 0 = some [] := by rw [hb5] at hrd1; exact hrd1
     rcases he with ⟨rfl, rfl⟩ | ⟨rfl, rfl⟩ <;> rcases hf with ⟨rfl, rfl⟩ | ⟨rfl, rfl⟩ <;> (simp (maxDischargeDepth := 8) only [sA, sM, zc, zp, zl, zk, za, zf, Int.reduceEq, Nat.reduceLT, t0, t3, t5, t7, t8, t9, t11, t12, SI, hoo1, hoo2, hl1, hl2, ii, tt, hb5, hr0, tb0, d0])
   · rcases he with ⟨rfl, rfl⟩ | ⟨rfl, rfl⟩ <;> rcases hf with ⟨rfl, rfl⟩ | ⟨rfl, rfl⟩ <;> (simp (maxDischargeDepth := 8) only [sA, sM, zc, zp, zl, zk, za, zf, Int.reduceEq, Nat.reduceLT, t0, t3, t5, t7, t8, t9, t11, t12, SI, hoo1, hoo2, hl1, hl2, ii, tt, hrd1, hrd5, htb, hTE])
end
section
variable {E : Env} (hC : VO E) (hG' : VN E) (hR : Vm E) (hT : CO E) (hQf : RY E) (hI : QP E) {s : DS} {d : Nat} {v0 : Value} {bs : List Int}
include hC hG' hR hT hQf hI
theorem Pl (f4 : E.fn 4 = some d4) (i4 : E.intr 4 = none) (h6 : E.intr 6 = some KM) (h13 : E.fn 13 = some d13) (i13 : E.intr 13 = none) (h17 : E.fn 17 = some d17) (i17 : E.intr 17 = none) (h39 : E.fn 39 = some d39) (i39 : E.intr 39 = none) (h10 : E.fn 10 = some d10) (i10 : E.intr 10 = none)
 (hG : s.Good) (hv : SlR s v0 bs) (hB : IsB bs) (hl : (bs.length : Int) ≤ 9223372036854775807) :
 W (dcall E (d + 14) (.func (.func 4) #[] #[]) [v0] s) fun r => r.1 = .bool true := by
 have lv : ∀ dd s, dcall E (dd + 1) (.func (.func 6) #[] #[]) [] s = some (.bool true, s) := fun _ _ => TO h6 rfl
 have hlf := hQf.lf
 rw [zn i4 (show E.fn 4 = some dLo from by rw [← Nf]; exact f4) rfl]
 obtain ⟨va, vc, hvs⟩ := hv.len
 by_cases c0 : bs.length ≤ 131072
 case neg =>
  have e0 : (131072 : Int) < (bs.length : Int) := by omega
  subst hvs
  simp only [sA, zc, zp, zl, za, zf, reduceCtorEq, pp, pv, pw, pg, dLo, e0, lv]
 have e0 : ¬ (131072 : Int) < (bs.length : Int) := by omega
 have hvl := hv.lt
 have hvw := hv.view
 rw [← Ya] at hvw
 subst hvs
 simp (maxDischargeDepth := 8) only [sA, sM, zc, zp, zl, Nat.reduceLeDiff, zi, pp, pv, pw, pg, repeatZ, dLo, e0, hG]
 obtain ⟨S1, hS1⟩ : ∃ S1 : DS, S1 = s.new (.cells (.list []) false) := ⟨_, rfl⟩
 rw [← hS1]
 have X1 : ∀ F, Ext F s S1 := fun F => by rw [hS1]; exact Ext.new
 have n1 : S1.next = s.next + 1 := by rw [hS1]; rfl
 have g1 : S1.get s.next = some (.cells (.list []) false) := by rw [hS1]; exact DS.new_get_self hG
 have hx : SlX S1 1 (.slice (some ⟨s.next, 0, none⟩) 0 0) [] := .inr ⟨s.next, none, rfl, .inl rfl, g1, (X1 []).wrs (hG _ (Nat.le_refl _)).2⟩
 have v1 := (hv.keep (X1 []) (by simp)).view
 rw [← Ya] at v1
 refine W.mono (Qy hx v1 ⟨(fun y hy => nomatch hy), (fun y hy => nomatch hy)⟩ (QN _) ((X1 []).good hG) (by rw [Zp]; simp; omega) (by rw [Zp]; simp; omega)) ?_
 rintro ⟨ov, S2⟩ ⟨h2, X2, b2⟩
 simp only [List.nil_append] at h2 X2 b2
 have XS : Ext [] s S2 := (X1 []).trans X2 (by simp [blk])
 have G2 := XS.good hG
 have hR2 := SlX.bytes h2
 simp only [sA]
 refine W.mono (F3 hC hG' hR hT hQf (d := d + 3) hR2 hB (by omega) G2) ?_
 rintro ⟨r3, S3⟩ ⟨X3, h3⟩
 simp only at X3 h3
 have G3 := X3.good G2
 have le2 := XS.le
 have le3 := X3.le
 have h3 : ∃ cs e, r3 = .tuple ⟨[.agg ⟨cs⟩, .int .i64 e]⟩ ∧ ZV S2.next S3 cs (Jh bs) ∧ ((e = 0 ∧ Yz bs) ∨ (e = 10 ∧ ¬ Yz bs)) := by
  unfold Jh
  rcases h3 with ⟨hn, h3⟩ | ⟨hg, cs, h3, hq⟩
  · rw [if_neg hn]
    exact ⟨_, _, h3, Di _ _, .inr ⟨rfl, hn⟩⟩
  · rw [if_pos hg]
    exact ⟨_, _, h3, hq, .inl ⟨rfl, hg⟩⟩
 obtain ⟨cs1, e, rfl, r1, he⟩ := h3
 have h8 : (Jh bs).2.2.1.length ≤ 8 := by
  unfold Jh
  by_cases hg : Yz bs
  · rw [if_pos hg]
    have := hg.2.2.2.1
    omega
  · rw [if_neg hg]
    exact Nat.zero_le _
 obtain ⟨x, hx⟩ : ∃ x, x = Jh bs := ⟨_, rfl⟩
 rw [← hx] at r1 h8
 have r1' := r1
 obtain ⟨b1, c1, b2', c2, q1, _, _⟩ := r1'
 subst q1
 simp (maxDischargeDepth := 8) only [sA, sM, zc, getN, Nat.reduceAdd, zh, zg, DS.wrC, Cells.size, Cells.fillFrom, Cells.set, zt, Nat.reduceLT, G3]
 obtain ⟨S4, hS4⟩ : ∃ S : DS, S = (S3.new (.cells (.list [.int .i64 0, .int .i64 0, .slice none 0 0, .slice none 0 0, .int .i64 0]) false)).upd S3.next (.cells (.list [.int .i64 x.1.1, .int .i64 x.1.2, .slice b1 x.2.1.length c1, .slice b2' x.2.2.1.length c2, .int .i64 x.2.2.2]) false) := ⟨_, rfl⟩
 rw [← hS4]
 have X4 : Ext [] S3 S4 := by
  rw [hS4]
  exact (Ext.new (F := [])).trans (Ext.upd (F := [S3.next]) (.inl (by simp))) (by simp)
 have g4 : S4.get S3.next = some (.cells (.list [.int .i64 x.1.1, .int .i64 x.1.2, .slice b1 x.2.1.length c1, .slice b2' x.2.2.1.length c2, .int .i64 x.2.2.2]) false) := by rw [hS4, DS.upd_get_self, DS.new_get_self G3]; rfl
 have w4 : S4.wr S3.next = true := X4.wrs (G3 _ (Nat.le_refl _)).2
 have G4 := X4.good G3
 have n4 : S4.next = S3.next + 1 := by rw [hS4, DS.upd_next]; rfl
 clear hS4
 have hv4 := ((hv.keep XS (by simp)).keep X3 (by simp)).keep X4 (by simp)
 refine W.mono (Tw hI (d := d + 7) h17 i17 h39 i39 h10 i10 hv4 G4 hB (by omega)) ?_
 rintro ⟨r5, S5⟩ ⟨X5, cs2, ok, hr5, r2, hok⟩
 simp only at X5 hr5 r2
 subst hr5
 rw [← hx] at r2
 have G5 := X5.good G4
 have r2' := r2
 obtain ⟨b3, c3, b4, c4, q2, _, _⟩ := r2'
 subst q2
 simp (maxDischargeDepth := 8) only [sA, sM, zc, getN, Nat.reduceAdd, zh, zg, DS.wrC, Cells.size, Cells.fillFrom, Cells.set, zt, Nat.reduceLT, G5]
 obtain ⟨S6, hS6⟩ : ∃ S : DS, S = (S5.new (.cells (.list [.int .i64 0, .int .i64 0, .slice none 0 0, .slice none 0 0, .int .i64 0]) false)).upd S5.next (.cells (.list [.int .i64 x.1.1, .int .i64 x.1.2, .slice b3 x.2.1.length c3, .slice b4 x.2.2.1.length c4, .int .i64 x.2.2.2]) false) := ⟨_, rfl⟩
 rw [← hS6]
 have X6 : Ext [] S5 S6 := by
  rw [hS6]
  exact (Ext.new (F := [])).trans (Ext.upd (F := [S5.next]) (.inl (by simp))) (by simp)
 have g6 : S6.get S5.next = some (.cells (.list [.int .i64 x.1.1, .int .i64 x.1.2, .slice b3 x.2.1.length c3, .slice b4 x.2.2.1.length c4, .int .i64 x.2.2.2]) false) := by rw [hS6, DS.upd_get_self, DS.new_get_self G5]; rfl
 have w6 : S6.wr S5.next = true := X6.wrs (G5 _ (Nat.le_refl _)).2
 have G6 := X6.good G5
 have n6 : S6.next = S5.next + 1 := by rw [hS6, DS.upd_next]; rfl
 clear hS6
 have X36 := X4.trans' (X5.trans' X6)
 have hR6 := hR2.keep (X3.trans' X36) (by simp)
 refine W.mono (CS hC hG' hR hT (d := d + 4) hR6 hB (by omega) G6) ?_
 rintro ⟨r7, S7⟩ ⟨X7, h7⟩
 simp only at X7 h7
 have G7 := X7.good G6
 have h7 : ∃ f r, r7 = .tuple ⟨[.agg ⟨r.cells⟩, .int .i64 f]⟩ ∧ ((f = 0 ∧ QR bs ∧ r = Vw (ZS (bs, false)).1) ∨ (f = 10 ∧ ¬ QR bs ∧ r = Rp.zero)) := by
  rcases h7 with ⟨hn, h7⟩ | ⟨hg, h7⟩
  · exact ⟨_, Rp.zero, h7, .inr ⟨rfl, hn, rfl⟩⟩
  · exact ⟨_, _, h7, .inl ⟨rfl, hg, rfl⟩⟩
 obtain ⟨f, r, rfl, hf⟩ := h7
 unfold Rp.cells
 simp (maxDischargeDepth := 8) only [sA, sM, zc, getN, Nat.reduceAdd, zh, zg, Nat.reduceLeDiff, DS.wrC, Cells.size, Cells.fillFrom, Cells.set, zt, zi, Nat.reduceLT, G7]
 obtain ⟨S8, hS8⟩ : ∃ S : DS, S = (S7.new (.cells (.list [.int .i64 0, .int .i64 0, .bool false, .int .i64 0, .int .i64 0, .int .i64 0]) false)).upd S7.next (.cells (.list [.int .i64 r.c, .int .i64 r.n, .bool r.rej, .int .i64 r.trap, .int .i64 r.v, .int .i64 r.gas]) false) := ⟨_, rfl⟩
 rw [← hS8]
 have X8 : Ext [] S7 S8 := by
  rw [hS8]
  exact (Ext.new (F := [])).trans (Ext.upd (F := [S7.next]) (.inl (by simp))) (by simp)
 have g8 : S8.get S7.next = some (.cells (.list [.int .i64 r.c, .int .i64 r.n, .bool r.rej, .int .i64 r.trap, .int .i64 r.v, .int .i64 r.gas]) false) := by rw [hS8, DS.upd_get_self, DS.new_get_self G7]; rfl
 have w8 : S8.wr S7.next = true := X8.wrs (G7 _ (Nat.le_refl _)).2
 have G8 := X8.good G7
 have n8 : S8.next = S7.next + 1 := by rw [hS8, DS.upd_next]; rfl
 clear hS8
 have hv8 := (hv4.keep (X5.trans' X6) (by simp)).keep (X7.trans' X8) (by simp)
 have hvl8 := hv8.lt
 obtain ⟨S9, hS9⟩ : ∃ S9 : DS, S9 = S8.new (.cells (.list [.slice va bs.length vc, .bool false]) false) := ⟨_, rfl⟩
 simp (maxDischargeDepth := 8) only [G8, ← hS9]
 have X9 : ∀ F, Ext F S8 S9 := fun F => by rw [hS9]; exact Ext.new
 have n9 : S9.next = S8.next + 1 := by rw [hS9]; rfl
 have g9 : S9.get (S7.next + 1) = some (.cells (.list [.slice va bs.length vc, .bool false]) false) := by rw [hS9, ← n8]; exact DS.new_get_self G8
 have G9 := (X9 []).good G8
 have I9 : zI S9 (S7.next + 1) (.slice va bs.length vc) bs false := ⟨g9, (X9 []).wrs (G8 _ (by omega)).2, hv8.keep (X9 []) (by simp), fun h => by have := hvl8 _ h; omega⟩
 refine W.mono (Cs hI (d := d + 8) I9 G9 hB (by omega)) ?_
 rintro ⟨r10, S10⟩ ⟨h10', bv', I10, X10, b10⟩
 simp only at h10' I10 X10 b10
 subst h10'
 have G10 := X10.good G9
 obtain ⟨rw', hrw⟩ : ∃ r', r' = Vw (ZS (bs, false)).1 := ⟨_, rfl⟩
 rw [← hrw] at hf ⊢
 obtain ⟨dec, hdec⟩ : ∃ b, b = decide ((ZS (bs, false)).2.2 = false ∧ ZQ rw') := ⟨_, rfl⟩
 rw [← hdec]
 unfold Rp.cells
 simp (maxDischargeDepth := 8) only [sA, sM, zc, getN, Nat.reduceAdd, zh, zg, DS.wrC, Cells.size, Cells.fillFrom, Cells.set, zt, Nat.reduceLT, G10]
 obtain ⟨S11, hS11⟩ : ∃ S : DS, S = (S10.new (.cells (.list [.int .i64 0, .int .i64 0, .bool false, .int .i64 0, .int .i64 0, .int .i64 0]) false)).upd S10.next (.cells (.list [.int .i64 rw'.c, .int .i64 rw'.n, .bool rw'.rej, .int .i64 rw'.trap, .int .i64 rw'.v, .int .i64 rw'.gas]) false) := ⟨_, rfl⟩
 rw [← hS11]
 have X11 : Ext [] S10 S11 := by
  rw [hS11]
  exact (Ext.new (F := [])).trans (Ext.upd (F := [S10.next]) (.inl (by simp))) (by simp)
 have g11 : S11.get S10.next = some (.cells (.list [.int .i64 rw'.c, .int .i64 rw'.n, .bool rw'.rej, .int .i64 rw'.trap, .int .i64 rw'.v, .int .i64 rw'.gas]) false) := by rw [hS11, DS.upd_get_self, DS.new_get_self G10]; rfl
 have w11 : S11.wr S10.next = true := X11.wrs (G10 _ (Nat.le_refl _)).2
 have G11 := X11.good G10
 have n11 : S11.next = S10.next + 1 := by rw [hS11, DS.upd_next]; rfl
 clear hS11
 have I11 := I10.keep X11 (by simp) (by simp)
 have gr := I11.gr
 obtain ⟨ba, bc, hbv⟩ := I11.sl.len
 rw [hbv] at gr
 have le9 := (X9 []).le
 have le10 := X10.le
 have lr : S7.next + 1 < S10.next := by omega
 have l4 := DS.get_lt' g4
 have l6 := DS.get_lt' g6
 have l8 := DS.get_lt' g8
 have le4 := X4.le
 have le5 := X5.le
 have le6 := X6.le
 have le7 := X7.le
 have le8 := X8.le
 have K : ∀ k, k < S8.next → k ∉ [S7.next + 1] := fun k hk => by simp; omega
 have X9t : Ext [S7.next + 1] S8 S11 := ((X9 _).trans' X10).trans' (X11.weaken (by simp))
 have g8k := X9t.keep g8 (K _ (by omega))
 have g6k := X9t.keep ((X7.trans' X8).keep g6 (by simp)) (K _ (by omega))
 have g4k := X9t.keep (((X5.trans' X6).trans' (X7.trans' X8)).keep g4 (by simp)) (K _ (by omega))
 have KF : ∀ k, k ∈ [S7.next + 1] → S8.next ≤ k := fun k hk => by have := List.mem_singleton.1 hk; omega
 have r1k := ((r1.keepLt X36 (by simp)).keepLt (X7.trans' X8) (by simp)).keepLt X9t KF
 have r2k := ((r2.keepLt X6 (by simp)).keepLt (X7.trans' X8) (by simp)).keepLt X9t KF
 have hR11 := (hR6.keep (X7.trans' X8) (by simp)).keep X9t fun k hk => K _ (by have := hR2.lt k hk; omega)
 have hv11 := hv8.keep X9t fun k hk => K _ (by have := hv8.lt k hk; omega)
 have he' : ∀ ok' : Bool, ok' = ok → (e = 0 ∧ ok' = true) ∨ (e = 10 ∧ ok' = false) := fun ok' h => by
  subst h
  rcases he with ⟨h1, h2⟩ | ⟨h1, h2⟩
  · exact .inl ⟨h1, hok.2 h2⟩
  · refine .inr ⟨h1, ?_⟩
    cases hb : ok' with
    | false => rfl
    | true => exact absurd (hok.1 hb) h2
 have gr' : S11.get (S7.next + 1) = some (.cells (.list [.slice ba (ZS (bs, false)).2.1.length bc, .bool (ZS (bs, false)).2.2]) false) := gr
 have hEnd : ∀ (S : DS) (t : PT Value) (isb : Bool), Ext [S10.next] S11 S → S.get S10.next = some (.cells (.list r.cells) false) → ((f = 0 ∧ isb = true) ∨ (f = 10 ∧ isb = false)) →
  t.get 0 = some (.slice va bs.length vc) → t.get 3 = some ov → t.get 4 = some (.pointer (some ⟨S3.next, 0, none⟩)) → t.get 5 = some (.int .i64 e) → t.get 6 = some (.pointer (some ⟨S5.next, 0, none⟩)) → t.get 7 = some (.bool ok) → t.get 8 = some (.pointer (some ⟨S7.next, 0, none⟩)) → t.get 9 = some (.int .i64 f) → t.get 11 = some (.pointer (some ⟨S10.next, 0, none⟩)) → t.get 12 = some (.bool isb) →
  WC (dcall E (d + 13)) E.lf false Du ⟨t, S, []⟩ (Ends [.tmp 2] fun r => r.1 = .bool true) := by
  intro S t isb X gw hfi t0 t3 t4 t5 t6 t7 t8 t9 t11 t12
  have KX : ∀ k, k < S10.next → k ∉ [S10.next] := fun k hk => by simp; omega
  have KL : ∀ k, k ∈ [S10.next] → S8.next ≤ k := fun k hk => by have := List.mem_singleton.1 hk; omega
  have XZ : Ext [S7.next + 1, S10.next] S8 S := (X9t.weaken (G := [S7.next + 1, S10.next]) (by simp)).trans' (X.weaken (by simp))
  have r1l := ((r1.keepLt X36 (by simp)).keepLt (X7.trans' X8) (by simp)).keepLt XZ (fun k hk => by simp at hk; omega)
  have r2l := ((r2.keepLt X6 (by simp)).keepLt (X7.trans' X8) (by simp)).keepLt XZ (fun k hk => by simp at hk; omega)
  exact TK h13 i13 hlf lv (d := d + 12) h8 (X.good G11) r1l r2l (X.keep g4k (KX _ (by omega))) (X.keep g6k (KX _ (by omega))) (X.keep g8k (KX _ (by omega))) gw (hR11.keep X fun k hk => KX _ (by have := hR2.lt k hk; omega)) (hv11.keep X fun k hk => KX _ (by have := hv8.lt k hk; omega)) (he' _ rfl) hfi t0 t3 t4 t5 t6 t7 t8 t9 t11 t12
 by_cases hgr : QR bs
 · rcases hf with ⟨hf0, _, hre⟩ | ⟨_, hn, _⟩
   case inr => exact absurd hgr hn
   have hdt : dec = true := by rw [hdec, decide_eq_true]; exact ⟨hgr.1.1, by rw [hrw]; exact hgr.2⟩
   have e1 : (((ZS (bs, false)).2.1.length : Int) = 0) = True := eq_true (by rw [hgr.1.2]; rfl)
   subst hdt
   simp (maxDischargeDepth := 8) only [sA, sM, zc, zp, zl, Cells.get, getN, Nat.reduceLT, gr', e1]
   exact hEnd _ _ true .refl (by rw [hre]; exact g11) (.inl ⟨hf0, rfl⟩) (by simp only [sA, reduceCtorEq]) (by simp only [sA, Nat.reduceEqDiff]) (by simp only [sA, Nat.reduceEqDiff]) (by simp only [sA, Nat.reduceEqDiff]) (by simp only [sA, Nat.reduceEqDiff]) (by simp only [sA, Nat.reduceEqDiff]) (by simp only [sA, Nat.reduceEqDiff]) (by simp only [sA, Nat.reduceEqDiff]) (by simp only [sA, Nat.reduceEqDiff]) (by simp only [sA, Nat.reduceEqDiff])
 · rcases hf with ⟨_, hg, _⟩ | ⟨hf0, _, hre⟩
   · exact absurd hg hgr
   have U : ∀ o, Ext [S10.next] S11 (S11.upd S10.next o) := fun o => Ext.upd (.inl (by simp))
   cases hd : dec with
   | false =>
    simp (maxDischargeDepth := 8) only [sA, sM, zc, Nat.reduceAdd, zh, zg, DS.wrC, Cells.size, Cells.fillFrom, Cells.set, zt, zi, Nat.reduceLT, g11, w11]
    exact hEnd _ _ false (U _) (by rw [DS.upd_get_self, g11, hre]; rfl) (.inr ⟨hf0, rfl⟩) (by simp only [sA, reduceCtorEq]) (by simp only [sA, Nat.reduceEqDiff]) (by simp only [sA, Nat.reduceEqDiff]) (by simp only [sA, Nat.reduceEqDiff]) (by simp only [sA, Nat.reduceEqDiff]) (by simp only [sA, Nat.reduceEqDiff]) (by simp only [sA, Nat.reduceEqDiff]) (by simp only [sA, Nat.reduceEqDiff]) (by simp only [sA, Nat.reduceEqDiff]) (by simp only [sA, Nat.reduceEqDiff])
   | true =>
    have hdd := of_decide_eq_true (hdec.symm.trans hd)
    have e1 : (((ZS (bs, false)).2.1.length : Int) = 0) = False := eq_false fun h => hgr ⟨⟨hdd.1, List.length_eq_zero_iff.1 (by omega)⟩, by rw [← hrw]; exact hdd.2⟩
    simp (maxDischargeDepth := 8) only [sA, sM, zc, zp, zl, Cells.get, getN, Nat.reduceAdd, zh, zg, DS.wrC, Cells.size, Cells.fillFrom, Cells.set, zt, zi, Nat.reduceLT, gr', e1, g11, w11]
    exact hEnd _ _ false (U _) (by rw [DS.upd_get_self, g11, hre]; rfl) (.inr ⟨hf0, rfl⟩) (by simp only [sA, reduceCtorEq]) (by simp only [sA, Nat.reduceEqDiff]) (by simp only [sA, Nat.reduceEqDiff]) (by simp only [sA, Nat.reduceEqDiff]) (by simp only [sA, Nat.reduceEqDiff]) (by simp only [sA, Nat.reduceEqDiff]) (by simp only [sA, Nat.reduceEqDiff]) (by simp only [sA, Nat.reduceEqDiff]) (by simp only [sA, Nat.reduceEqDiff]) (by simp only [sA, Nat.reduceEqDiff])
end
end Go.Dx.TbA
