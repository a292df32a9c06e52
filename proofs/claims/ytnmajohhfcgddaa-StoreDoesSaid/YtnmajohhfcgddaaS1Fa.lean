/- A part. -/
import Derived.Test.YtnmajohhfcgddaaS1Fn
import Derived.Test.YtnmajohhfcgddaaDxSk
import Derived.Test.YtnmajohhfcgddaaDxOut
set_option linter.unusedVariables false
set_option linter.unusedSimpArgs false
set_option linter.unusedSectionVars false
set_option maxRecDepth 100000
set_option maxHeartbeats 4000000
namespace Go.Dx.StA
open Go Go.Dx Go.Dx.Search Go.Dx.St Go.Proofs.Ytnmajohhfcgddaa
structure Its (E : Env) : Prop where
 fAll : E.fn 12 = some d12
 iAll : E.intr 12 = none
 fAll1 : E.fn 35 = some d35
 iAll1 : E.intr 35 = none
 ffrom : E.fn 36 = some d36
 ifrom : E.intr 36 = none
 ffrom1 : E.fn 54 = some d54
 ifrom1 : E.intr 54 = none
 fNext : E.fn 13 = some d13
 iNext : E.intr 13 = none
structure MK (J : Nat → DS → Prop) (n y1 c : Nat) (kv : Value) (i : Nat) (x : St) : Prop where
 ex : ∃ j : Nat, i = n - j ∧ j ≤ n ∧ x.defers = [] ∧ (x.t.get 0 = some (.func (.yield y1) #[] #[]) ∧ x.t.get 1 = some (.pointer (some ⟨c, 0, none⟩)) ∧ x.t.get 11 = some kv ∧ x.t.get 12 = some (.int .i64 (n : Int)) ∧ x.t.get 13 = some (.int .i64 (j : Int))) ∧ J j x.s
structure MN (J : Nat → DS → Prop) (n y1 c : Nat) (i : Nat) (x : St) : Prop where
 ex : ∃ j : Nat, i = n - j ∧ j ≤ n ∧ x.defers = [] ∧ (x.t.get 0 = some (.func (.yield y1) #[] #[]) ∧ x.t.get 1 = some (.pointer (some ⟨c, 0, none⟩)) ∧ x.t.get 4 = some (.int .i64 (j : Int))) ∧ J j x.s
section
variable {E : Env} (hE : Fns E) (hI : Its E) {s : DS} {p : Nat} {kv vv : Value} {L : List Ent} {room : Int} {d : Nat} {J : Nat → DS → Prop} {Stop : DS → Prop} {c y1 : Nat}
include hI
theorem D7 (hJ : ∀ i S, J i S → Xg S p kv vv L room ∧ S.get c = some (.cells (.list [.pointer (some ⟨p, 0, none⟩)]) false))
 (hstep : ∀ (i : Nat) (x : Ent) (S : DS), L[i]? = some x → J i S → W (dcall E d (.func (.yield y1) #[] #[]) [.int .i64 x.1, .int .i64 x.2] S) fun r => (r.1 = .bool true ∧ J (i + 1) r.2) ∨ (r.1 = .bool false ∧ Stop r.2))
 (h0 : J 0 s) (hlf : L.length < E.lf) :
 W (dcall E (d + 1) (.func (.func 35) #[] #[.pointer (some ⟨c, 0, none⟩)]) [.func (.yield y1) #[] #[]] s) fun r => J L.length r.2 ∨ Stop r.2 := by
 obtain ⟨c0, gc⟩ := hJ 0 s h0
 have gp := c0.gp
 obtain ⟨ak, ck, hkv⟩ := c0.ks.shape
 have hkl : (Ys L).length = L.length := by unfold Ys; rw [ZX, List.length_map]
 rw [hkl] at hkv
 refine Zw fun Q hQ => ?_
 rw [Wm hI.iAll1 hI.fAll1 rfl]
 have h0' := h0
 subst hkv
 simp (maxSteps := 4000000) only [zr, zh, zx, zN, zM, ze, zi, zm, zq, zu, zg, zp, ZD, zk, zI, Z5, zS, zQ, Zk, Zl, zt, Zv, zl, zj, zf, zd, zc, Nat.reduceEqDiff, z0, zn, List.getElem?_cons_zero, List.getElem?_cons_succ, z1, zL, Cells.get, getN, if_false, Bool.not_false, z3, List.nil_append, List.cons_append, pp, pv, Nat.add_zero, d35, gc, gp]
 refine ZP (MK J L.length y1 c (.slice ak L.length ck)) L.length hlf ⟨0, rfl, Nat.zero_le _, rfl, ?_, h0'⟩ ?_
 · simp (maxSteps := 4000000) only [zd, zc, Nat.reduceEqDiff, z0, zn, List.getElem?_cons_zero, List.getElem?_cons_succ, Bool.true_and, true_and, reduceCtorEq]
   rfl
 rintro n ⟨t, S, ds⟩ hn ⟨i, rfl, hi, hds, ⟨g0, g1, g11, g12, g13⟩, hj⟩
 simp only at hds g0 g1 g11 g12 g13 hj
 subst hds
 by_cases c1 : i < L.length
 · have hx : L[i]? = some L[i] := List.getElem?_eq_getElem c1
   generalize L[i] = x at hx
   obtain ⟨cS, gcS⟩ := hJ i S hj
   have gpS := cS.gp
   have hk : (L.map (·.1))[i]? = some x.1 := by simp [hx]
   have hv : (L.map (·.2))[i]? = some x.2 := by simp [hx]
   obtain ⟨b, sp, cc, ext, hkv2, hr, hg⟩ := cS.ks.getI hk
   obtain ⟨b2, sp2, cc2, ext2, hvv2, hr2, hg2⟩ := cS.vs.getI hv
   rw [List.length_map] at hkv2 hvv2
   cases hkv2
   have hgb := hr.get
   have hgb2 := hr2.get
   subst hvv2
   have e1 : (i : Int) < (L.length : Int) := by omega
   have hlen := cS.len
   have w1 : zE .i64 ((i : Int) + 1) = ((i + 1 : Nat) : Int) := by rw [zR (by omega) (by omega)]; omega
   simp (maxSteps := 4000000) only [zr, zh, zx, zN, zM, ze, zi, zm, zq, zC, zg, zp, zk, zI, zP, zS, zQ, Yy, Zl, zF, zt, z7, Zb, zl, zf, zd, zc, Nat.reduceEqDiff, z0, z1, z4, z5, zL, Cells.get, getN, Nat.zero_add, Nat.blt_eq, if_true, reduceCtorEq, Nat.add_zero, zD, Nat.mul_one, decide_true, g0, g1, g11, g12, g13, e1, c1, hgb, hg, hgb2, hg2, gcS, gpS]
   refine W.mono (hstep i x S hx hj) ?_
   rintro ⟨v, S2⟩ (⟨hv, hj2⟩ | ⟨hv, hst⟩)
   · simp only at hv hj2
     subst hv
     simp (maxSteps := 4000000) only [zh, zx, zM, ze, zK, zi, zW, zm, zq, zu, zg, zp, zk, zI, zP, Qn, zt, z7, Zb, zl, zj, zf, zd, zc, Nat.reduceEqDiff, z0, z1, if_true, Bool.not_true, g0, g1, g11, g12, g13, w1]
     exact ⟨L.length - (i + 1), by omega, ⟨i + 1, rfl, by omega, rfl, by simp (maxSteps := 4000000) only [zd, zc, Nat.reduceEqDiff, z0, Bool.and_self, and_self, reduceCtorEq, g0, g1, g11, g12, g13], hj2⟩⟩
   · simp only at hv hst
     subst hv
     simp (maxSteps := 4000000) only [zx, zV, ze, Zx, YI, zi, K8, zm, zq, zC, zg, zp, zk, Qn, zt, zH, zl, zf, zd, z1, zw, zG, Bool.not_false, g0, g1, g11, g12, g13]
     exact hQ _ (.inr hst)
 · obtain rfl : i = L.length := by omega
   have e1 : ¬ (L.length : Int) < (L.length : Int) := by omega
   simp (maxSteps := 4000000) only [zr, zh, zx, ZA, ze, Ze, Zg, zi, Zf, zm, zq, zu, zg, zp, zk, zP, z7, Zb, ZO, zl, zf, zd, z1, zw, zG, if_true, decide_false, g0, g1, g11, g12, g13, e1]
   exact hQ _ (.inl hj)
include hE
theorem Ff {c2 : Nat} {k : Int} (hJ : ∀ i S, J i S → Xg S p kv vv L room ∧ S.get c = some (.cells (.list [.pointer (some ⟨p, 0, none⟩)]) false))
 (gk : s.get c2 = some (.cells (.list [.int .i64 k]) false))
 (hstep : ∀ (i : Nat) (x : Ent) (S : DS), L[i]? = some x → J i S → W (dcall E (d + 4) (.func (.yield y1) #[] #[]) [.int .i64 x.1, .int .i64 x.2] S) fun r => (r.1 = .bool true ∧ J (i + 1) r.2) ∨ (r.1 = .bool false ∧ Stop r.2))
 (h0 : J (pos k L) s) (hlf : L.length < E.lf) :
 W (dcall E (d + 5) (.func (.func 54) #[] #[.pointer (some ⟨c, 0, none⟩), .pointer (some ⟨c2, 0, none⟩)]) [.func (.yield y1) #[] #[]] s) fun r => J L.length r.2 ∨ Stop r.2 := by
 obtain ⟨c0, gc⟩ := hJ _ s h0
 have gp := c0.gp
 refine Zw fun Q hQ => ?_
 rw [Wm hI.ifrom1 hI.ffrom1 rfl]
 have h0' := h0
 have hple := Qg k L
 simp (maxSteps := 4000000) only [zr, zh, zN, ze, zi, zm, zq, zg, zp, zk, zI, Yg, Zl, zF, zt, zl, zB, zf, zd, zc, Nat.reduceEqDiff, z0, zn, List.getElem?_cons_zero, List.getElem?_cons_succ, z1, z4, z5, zL, Cells.get, getN, List.nil_append, List.cons_append, pp, pv, d54, gc, gk, find_ok hE c0]
 refine ZP (MN J L.length y1 c) (L.length - pos k L) (by omega) ⟨pos k L, rfl, hple, rfl, ?_, h0'⟩ ?_
 · simp (maxSteps := 4000000) only [zd, zc, Nat.reduceEqDiff, z0, zn, List.getElem?_cons_zero, List.getElem?_cons_succ, Bool.and_self, and_self, reduceCtorEq]
 rintro n ⟨t, S, ds⟩ hn ⟨i, rfl, hi, hds, ⟨g0, g1, g4⟩, hj⟩
 simp only at hds g0 g1 g4 hj
 subst hds
 obtain ⟨cS, gcS⟩ := hJ i S hj
 have gpS := cS.gp
 by_cases c1 : i < L.length
 · have hx : L[i]? = some L[i] := List.getElem?_eq_getElem c1
   generalize L[i] = x at hx
   have hk : (L.map (·.1))[i]? = some x.1 := by simp [hx]
   have hv : (L.map (·.2))[i]? = some x.2 := by simp [hx]
   obtain ⟨b, sp, cc, ext, hkv2, hr, hg⟩ := cS.ks.getI hk
   obtain ⟨b2, sp2, cc2, ext2, hvv2, hr2, hg2⟩ := cS.vs.getI hv
   rw [List.length_map] at hkv2 hvv2
   have hgb := hr.get
   have hgb2 := hr2.get
   rw [hkv2, hvv2] at gpS
   have e1 : (i : Int) < (L.length : Int) := by omega
   have hlen := cS.len
   have w1 : zE .i64 ((i : Int) + 1) = ((i + 1 : Nat) : Int) := by rw [zR (by omega) (by omega)]; omega
   simp (maxSteps := 4000000) only [zr, zh, zx, zN, zM, ze, zi, zm, zq, zC, zg, zp, zk, zI, zP, zS, zQ, Yy, Zk, Zl, zF, zt, z7, Zb, zl, zf, zd, zc, Nat.reduceEqDiff, z0, z1, z4, z5, zL, Cells.get, getN, Nat.zero_add, Nat.blt_eq, if_true, reduceCtorEq, Nat.add_zero, zD, Nat.mul_one, decide_true, g0, g1, g4, e1, c1, hgb, hg, hgb2, hg2, gcS, gpS]
   refine W.mono (hstep i x S hx hj) ?_
   rintro ⟨v, S2⟩ (⟨hv, hj2⟩ | ⟨hv, hst⟩)
   · simp only at hv hj2
     subst hv
     simp (maxSteps := 4000000) only [zh, zx, zM, ze, zK, zi, zW, zm, zq, zu, zg, zp, zk, zI, zP, Qn, zt, z7, Zb, zl, zj, zf, zd, zc, Nat.reduceEqDiff, z0, z1, if_true, Bool.not_true, g0, g1, g4, w1]
     exact ⟨L.length - (i + 1), by omega, ⟨i + 1, rfl, by omega, rfl, by simp (maxSteps := 4000000) only [zd, zc, Nat.reduceEqDiff, z0, Bool.and_self, and_self, reduceCtorEq, g0, g1, g4], hj2⟩⟩
   · simp only at hv hst
     subst hv
     simp (maxSteps := 4000000) only [zx, zV, ze, Zx, YI, zi, K8, zm, zq, zC, zg, zp, zk, Qn, zt, zH, zl, zf, zd, z1, zw, zG, Bool.not_false, g0, g1, g4]
     exact hQ _ (.inr hst)
 · obtain rfl : i = L.length := by omega
   have e1 : ¬ (L.length : Int) < (L.length : Int) := by omega
   obtain ⟨ak, ck, hkv⟩ := cS.ks.shape
   have hkl : (Ys L).length = L.length := by unfold Ys; rw [ZX, List.length_map]
   rw [hkl] at hkv
   rw [hkv] at gpS
   simp (maxSteps := 4000000) only [zr, zh, zx, ZA, ze, Ze, Zg, zi, Zf, zm, zq, zu, zg, zp, zk, zI, zP, zS, zQ, Zk, Zl, zt, z7, Zb, ZO, zl, zf, zd, zc, Nat.reduceEqDiff, z0, z1, zw, zG, zL, Cells.get, getN, if_true, Nat.add_zero, decide_false, g0, g1, g4, gcS, gpS, e1]
   exact hQ _ (.inl hj)
omit hE
theorem CT (dd : Nat) (s0 : DS) (a : Option Addr) : dcall E (dd + 1) (.func (.func 12) #[] #[]) [.pointer a] s0 = some (.func (.func 35) #[] #[.pointer (some ⟨s0.next, 0, none⟩)], s0.new (.cells (.list [.pointer a]) false)) := by
 rw [← Jg, zT hI.iAll hI.fAll rfl]
 simp (maxSteps := 4000000) only [zr, zh, zV, ze, zi, zm, zq, zg, zk, zI, Kg, Xe, zH, zl, zj, zf, zd, zc, Nat.reduceEqDiff, z0, zn, List.getElem?_cons_zero, z1, zw, zG, z4, z5, J1, pp, pv, d12]
theorem Ti (dd : Nat) (s0 : DS) (a : Option Addr) (b : Int) : dcall E (dd + 1) (.func (.func 36) #[] #[]) [.pointer a, .int .i64 b] s0 = some (.func (.func 54) #[] #[.pointer (some ⟨s0.next, 0, none⟩), .pointer (some ⟨s0.next + 1, 0, none⟩)], (s0.new (.cells (.list [.pointer a]) false)).new (.cells (.list [.int .i64 b]) false)) := by
 rw [← Jg, zT hI.ifrom hI.ffrom rfl]
 simp (maxSteps := 4000000) only [zr, zh, zV, ze, zi, zm, zq, zg, zk, zI, Kg, Xe, zH, zl, zj, zf, zd, zc, Nat.reduceEqDiff, z0, zn, List.getElem?_cons_zero, List.getElem?_cons_succ, z1, zw, zG, z4, z5, zZ, J1, pp, pv, zU, d36]
def RQ : DCode := (.seq (.region [pv 7 16]) (.region [pv 8 17]))
def DV : DCode := (.block 1 (.seq (.region [pv 18 7, pv 19 8, ⟨none, .st 1 (tm 4) (tm 18), none, [], false⟩, ⟨none, .st 1 (tm 5) (tm 19), none, [], false⟩, ⟨none, .st 1 (tm 6) (.const (.bool true)), none, [], false⟩]) (.ret)))
def Q8 (k : Int) (L : List Ent) : List Value := match L[pos k L]? with
 | some x => [.int .i64 x.1, .int .i64 x.2, .bool true]
 | none => [.int .i64 0, .int .i64 0, .bool false]
include hE
theorem TA (c : Xg s p kv vv L room) (hG : s.Good) (k : Int) :
 W (dcall E (d + 7) (.func (.func 13) #[] #[]) [.pointer (some ⟨p, 0, none⟩), .int .i64 k] s) fun r => r.1 = .tuple ⟨Q8 k L⟩ ∧ Ext [] s r.2 := by
 have hlf := hE.lf
 have hlen := c.len
 have hlt := c.lt
 have hpl := hlt p (List.mem_cons_self ..)
 refine Zw fun Q hQ => ?_
 rw [zT hI.iNext hI.fNext rfl]
 simp (maxSteps := 4000000) (maxDischargeDepth := 8) only [zr, zh, zx, zN, ze, zi, zm, zq, zC, zg, zp, ZD, zk, zI, Z5, zS, zQ, Zi, zF, zt, Zv, zl, zj, zB, zf, zd, zc, z0, zn, List.getElem?_cons_zero, List.getElem?_cons_succ, z1, z4, z5, Nat.reduceAdd, if_true, Bool.not_false, pp, pv, zU, Nat.add_zero, zX, Nat.add_assoc, Nat.reduceLT, Nat.lt_add_one, Nat.succ_pos, d13, Ti hI, hG]
 refine Cc (by simp (maxSteps := 4000000) only [zl, zd, z1]; rfl) ?_
 simp (maxSteps := 4000000) (maxDischargeDepth := 8) only [Nat.reduceAdd, zU, Nat.add_assoc]
 obtain ⟨T, hT⟩ : ∃ T : DS, T = ((((s.new (.cells (.list [.int .i64 0]) false)).new (.cells (.list [.int .i64 0]) false)).new (.cells (.list [.bool false]) false)).new (.cells (.list [.pointer (some ⟨p, 0, none⟩)]) false)).new (.cells (.list [.int .i64 k]) false) := ⟨_, rfl⟩
 rw [← hT]
 have XT : Ext [] s T := by rw [hT]; exact Ext.new.trans' (Ext.new.trans' (Ext.new.trans' (Ext.new.trans' Ext.new)))
 have nT : T.next = s.next + 5 := by rw [hT]; simp (maxSteps := 4000000) (maxDischargeDepth := 8) only [Nat.reduceAdd, zU, Nat.add_assoc]
 have hGT := XT.good hG
 have T0 : T.get s.next = some (.cells (.list [.int .i64 0]) false) := by rw [hT]; simp (maxSteps := 4000000) (maxDischargeDepth := 8) only [Nat.reduceAdd, zU, zo, zz, zA, Zu, Nat.add_assoc, Nat.lt_add_one, Nat.succ_pos, hG]
 have T1 : T.get (s.next + 1) = some (.cells (.list [.int .i64 0]) false) := by rw [hT]; simp (maxSteps := 4000000) (maxDischargeDepth := 8) only [Nat.reduceAdd, zU, zo, zz, zA, Nat.add_assoc, Nat.reduceLT, Nat.lt_add_one, Nat.add_lt_add_iff_left, hG]
 have T2 : T.get (s.next + 2) = some (.cells (.list [.bool false]) false) := by rw [hT]; simp (maxSteps := 4000000) (maxDischargeDepth := 8) only [Nat.reduceAdd, zU, zo, zz, zA, Nat.add_assoc, Nat.reduceLT, Nat.lt_add_one, Nat.add_lt_add_iff_left, hG]
 have T3 : T.get (s.next + 3) = some (.cells (.list [.pointer (some ⟨p, 0, none⟩)]) false) := by rw [hT]; simp (maxSteps := 4000000) (maxDischargeDepth := 8) only [Nat.reduceAdd, zU, zo, zz, zA, Nat.add_assoc, Nat.lt_add_one, hG]
 have T4 : T.get (s.next + 4) = some (.cells (.list [.int .i64 k]) false) := by rw [hT]; simp (maxSteps := 4000000) (maxDischargeDepth := 8) only [Nat.reduceAdd, zU, zo, zA, Nat.add_assoc, hG]
 generalize hO : Wn _ _ _ _ = O
 obtain ⟨tt, hO2, t4, t5, t6⟩ : ∃ tt, O = Wn tt [16, 17] RQ DV ∧ tt.get 4 = some (.pointer (some ⟨s.next, 0, none⟩)) ∧ tt.get 5 = some (.pointer (some ⟨s.next + 1, 0, none⟩)) ∧ tt.get 6 = some (.pointer (some ⟨s.next + 2, 0, none⟩)) := ⟨_, hO.symm, by simp (maxSteps := 4000000) only [zd, zc, Nat.reduceEqDiff, z0], by simp (maxSteps := 4000000) only [zd, zc, Nat.reduceEqDiff, z0], by simp (maxSteps := 4000000) only [zd, zc, Nat.reduceEqDiff, z0]⟩
 obtain ⟨U, hU⟩ : ∃ U : DS, U = (T.new .dfr).new O := ⟨_, rfl⟩
 rw [← hU]
 have XU : Ext [] T U := by rw [hU]; exact Ext.new.trans' Ext.new
 have U6 : U.get (s.next + 6) = some O := by rw [hU]; simp (maxSteps := 4000000) (maxDischargeDepth := 8) only [Nat.reduceAdd, zU, zo, zA, Nat.add_assoc, hGT, nT]
 have U5 : U.get (s.next + 5) = some .dfr := by rw [hU]; simp (maxSteps := 4000000) (maxDischargeDepth := 8) only [Nat.reduceAdd, zU, zo, zz, zA, Nat.add_assoc, Nat.lt_add_one, hGT, nT]
 have XsU : Ext [] s U := XT.trans' XU
 have hGU := XsU.good hG
 have wU : ∀ k, U.wr (s.next + k) = true := fun k => XsU.wrs (hG _ (Nat.le_add_right _ _)).2
 have wU0 := wU 0
 rw [Nat.add_zero] at wU0
 have U0 := XU.keep T0 (by simp)
 have U1 := XU.keep T1 (by simp)
 have U2 := XU.keep T2 (by simp)
 refine W.mono (Ff (J := fun i S => i = pos k L ∧ S = U) (Stop := fun S => Ext [s.next, s.next + 1, s.next + 2, s.next + 6] U S ∧ ∃ x tt', L[pos k L]? = some x ∧ S.get s.next = some (.cells (.list [.int .i64 x.1]) false) ∧ S.get (s.next + 1) = some (.cells (.list [.int .i64 x.2]) false) ∧ S.get (s.next + 2) = some (.cells (.list [.bool true]) false) ∧ S.get (s.next + 6) = some (.loop .done .ret tt' [16, 17] RQ DV))
  hE hI (c2 := s.next + 4) (k := k) (fun i S h => by obtain ⟨_, rfl⟩ := h; exact ⟨c.keep XsU (by simp), XU.keep T3 (by simp)⟩) (XU.keep T4 (by simp)) ?_ ⟨rfl, rfl⟩ (by omega)) ?_
 · rintro i x S hx ⟨rfl, rfl⟩
   have U6' : S.get (s.next + 6) = some (.loop .ready .normal tt [16, 17] RQ DV) := by rw [U6, hO2]; rfl
   refine KU U6' rfl ?_
   simp (maxSteps := 4000000) only [zr, zh, ze, zi, zm, zq, zg, zI, zl, zf, zd, zc, Nat.reduceEqDiff, z0, z1, pv, Wg, XG, RQ]
   refine JP U6' (wU 6) ?_
   simp (maxSteps := 4000000) (maxDischargeDepth := 8) only [zr, zh, zN, zV, ze, YI, zi, zm, zq, zg, zY, zk, zI, Zz, zl, zj, zf, zy, zd, zc, z0, z1, Nat.zero_add, Zh, zZ, XV, List.length_cons, List.length_nil, allOne, zJ, Bool.and_self, Bool.and_true, Nat.beq_eq, Nat.ble_eq, Nat.le_refl, if_true, DS.wrC, Cells.size, Cells.fillFrom, Cells.set, Zj, pv, DS.upd_get_ne, DS.upd_wr, zX, ZW, Zu, Nat.reduceLT, Nat.lt_add_one, Nat.succ_pos, Nat.add_lt_add_iff_left, DV, U0, U1, U2, U6', wU, wU0, t4, t5, t6]
   refine Qc (p := .normal) (t3 := tt) (ps3 := [16, 17]) (a3 := RQ) (b3 := DV) (by simp (maxSteps := 4000000) (maxDischargeDepth := 8) only [z0, DS.upd_get_self, DS.upd_get_ne, Option.map_some, ZW, Zu, Nat.reduceLT, Nat.succ_pos, Nat.add_lt_add_iff_left, U6']; rfl) (by simp (maxSteps := 4000000) (maxDischargeDepth := 8) only [DS.upd_wr, wU]) ?_
   refine .inr ⟨rfl, ?_, x, tt, hx, ?_, ?_, ?_, ?_⟩
   · exact Ext.trans' (Ext.upd (.inl (by simp))) (Ext.trans' (Ext.upd (.inl (by simp))) (Ext.trans' (Ext.upd (.inl (by simp))) (Ext.trans' (Ext.upd (.inl (by simp))) (Ext.upd (.inl (by simp))))))
   · simp (maxSteps := 4000000) (maxDischargeDepth := 8) only [z0, if_false, reduceCtorEq, DS.upd_get_self, DS.upd_get_ne, Option.map_some, zX, Zu, Nat.lt_add_one, Nat.succ_pos, U0]
   · simp (maxSteps := 4000000) (maxDischargeDepth := 8) only [z0, if_false, reduceCtorEq, DS.upd_get_self, DS.upd_get_ne, Option.map_some, zX, ZW, Nat.reduceLT, Nat.lt_add_one, Nat.add_lt_add_iff_left, U1]
   · simp (maxSteps := 4000000) (maxDischargeDepth := 8) only [z0, if_false, reduceCtorEq, DS.upd_get_self, DS.upd_get_ne, Option.map_some, zX, ZW, Zu, Nat.reduceLT, Nat.lt_add_one, Nat.succ_pos, Nat.add_lt_add_iff_left, U2]
   · simp (maxSteps := 4000000) (maxDischargeDepth := 8) only [z0, if_false, reduceCtorEq, DS.upd_get_self, DS.upd_get_ne, Option.map_some, ZW, Zu, Nat.reduceLT, Nat.succ_pos, Nat.add_lt_add_iff_left, U6']
     rfl
 rintro ⟨vv2, r⟩ (⟨hpos, hrU⟩ | ⟨XR, x, tt', hx, r0, r1, r2, r6⟩)
 · simp only at hrU hpos
   subst hrU
   refine Qd (st := .ready) (e := .normal) (U6.trans (by rw [hO2]; rfl)) (.inl rfl) (wU 6) ?_
   simp (maxSteps := 4000000) (maxDischargeDepth := 8) only [zr, zh, zV, ze, zK, zi, zm, zq, zg, zY, zk, Zz, zl, zj, zy, zd, zc, z0, z1, Nat.zero_add, Zh, zZ, XV, List.length_cons, List.length_nil, allOne, zJ, Bool.and_self, Bool.and_true, Nat.beq_eq, Nat.ble_eq, Nat.le_refl, if_true, DS.wrC, Cells.size, Cells.fillFrom, Cells.set, Zj, DS.upd_get_ne, DS.upd_wr, zX, ZW, Zu, Nat.reduceLT, Nat.lt_add_one, Nat.succ_pos, Nat.add_lt_add_iff_left, U0, U1, U2, wU, wU0]
   rw [W2 (by simp (maxSteps := 4000000) (maxDischargeDepth := 8) only [z0, DS.upd_get_ne, zX, ZW, Zu, Nat.reduceLT, Nat.lt_add_one, Nat.succ_pos, Nat.add_lt_add_iff_left, U5]) (by simp (maxSteps := 4000000) (maxDischargeDepth := 8) only [DS.upd_wr, wU])]
   simp (maxSteps := 4000000) (maxDischargeDepth := 8) only [zk, Zo, zl, zd, zc, z0, z1, zw, zG, Cells.get, getN, DS.upd_get_self, DS.upd_get_ne, Option.map_some, zX, ZW, Zu, Nat.reduceLT, Nat.lt_add_one, Nat.succ_pos, Nat.add_lt_add_iff_left, U0, U1, U2, DS.rid_get_ne]
   have hnone : Q8 k L = [.int .i64 0, .int .i64 0, .bool false] := by
    unfold Q8
    rw [← hpos, List.getElem?_eq_none (Nat.le_refl _)]
   refine hQ _ ⟨by rw [hnone], ?_⟩
   refine XsU.trans (G := [s.next, s.next + 1, s.next + 2, s.next + 5, s.next + 6]) (Ext.trans' (Ext.upd (.inl (by simp))) (Ext.trans' (Ext.upd (.inl (by simp))) (Ext.trans' (Ext.upd (.inl (by simp))) (Ext.trans' (Ext.upd (.inl (by simp))) (Ext.rid (.inl (by simp))))))) (by simp)
 · simp only at XR r0 r1 r2 r6
   have wR : ∀ k, r.wr (s.next + k) = true := fun k => XR.wrs (wU k)
   have R5 := XR.keep U5 (by simp)
   refine Qd r6 (.inr rfl) (wR 6) ?_
   simp (maxSteps := 4000000) (maxDischargeDepth := 8) only [Zx, YI]
   rw [W2 (by simp (maxSteps := 4000000) (maxDischargeDepth := 8) only [z0, DS.upd_get_ne, zX, Nat.lt_add_one, R5]) (by simp (maxSteps := 4000000) (maxDischargeDepth := 8) only [DS.upd_wr, wR])]
   simp (maxSteps := 4000000) (maxDischargeDepth := 8) only [zk, Zo, zl, zd, zc, z0, z1, zw, zG, Cells.get, getN, DS.upd_get_ne, zX, Zu, Nat.reduceLT, Nat.lt_add_one, Nat.succ_pos, Nat.add_lt_add_iff_left, r0, r1, r2, DS.rid_get_ne]
   have hsome : Q8 k L = [.int .i64 x.1, .int .i64 x.2, .bool true] := by unfold Q8; rw [hx]
   refine hQ _ ⟨by rw [hsome], ?_⟩
   exact (XsU.trans XR (by simp)).trans (G := [s.next + 5, s.next + 6]) (Ext.trans' (Ext.upd (.inl (by simp))) (Ext.rid (.inl (by simp)))) (by simp)
end
end Go.Dx.StA
namespace Go.Dx.StA
open Go Go.Dx Go.Proofs.Ytnmajohhfcgddaa
structure Ch (E : Env) : Prop where
 fcput : E.fn 100 = some d100
 icput : E.intr 100 = none
 fclow : E.fn 93 = some d93
 iclow : E.intr 93 = none
 fnum : E.fn 78 = some d78
 inum : E.intr 78 = none
 fnum1 : E.fn 92 = some d92
 inum1 : E.intr 92 = none
 lf : 10000 ≤ E.lf
structure M9 (s0 : DS) (N o : Nat) (x : Int) (size : Nat) (n : Nat) (y : St) : Prop where
 ex : ∃ j : Nat, n = size - j ∧ j ≤ size ∧ y.defers = [] ∧ (y.t.get 0 = some (.pointer (some ⟨o, 0, none⟩)) ∧ y.t.get 2 = some (.int .i64 x) ∧ y.t.get 3 = some (.int .i64 (size : Int)) ∧ y.t.get 8 = some (.pointer (some ⟨N, 0, none⟩)) ∧ y.t.get 22 = some (.int .i64 (size : Int)) ∧ y.t.get 23 = some (.int .i64 (j : Int))) ∧
  Ext [N] s0 y.s ∧ ∃ rest, y.s.get N = some (.cells (.list ((leB x j).map (fun n => .int .u8 n) ++ rest)) false) ∧ ((leB x j).map (fun n => Value.int .u8 n) ++ rest).length = 8
section
variable {E : Env} (hC : Ch E) {s : DS} {o : Nat} {bv : Value} {bs cs : List Int} {d : Nat}
include hC
theorem P5 (h : KW s o bv bs) (hG : s.Good) {y : Value} (hy : SlV s 1 y (ZZ cs)) (hlen : bs.length + cs.length ≤ 1048576) :
 W (dcall E (d + 1) (.func (.func 100) #[] #[]) [.pointer (some ⟨o, 0, none⟩), y] s) (GH s o bv (bs ++ cs)) := by
 have go := h.go
 have wo := h.wo
 have hol := DS.get_lt' go
 obtain ⟨ab, cb, hbv⟩ := h.sl.shape
 rw [Zp] at hbv
 have hyl : ∃ a c, y = .slice a cs.length c := by
  rcases hy with ⟨rfl, h0⟩ | ⟨b, off, sp, c, rfl, _⟩
  · have : cs = [] := by simpa [ZZ] using h0
    subst this
    exact ⟨none, 0, rfl⟩
  · exact ⟨_, c, by rw [Zp]⟩
 obtain ⟨ya, yc, rfl⟩ := hyl
 have w1 : zE .i64 (1048576 - (bs.length : Int)) = 1048576 - (bs.length : Int) := zR (by omega) (by omega)
 have e1 : ¬ 1048576 - (bs.length : Int) < (cs.length : Int) := by omega
 refine Zw fun Q hQ => ?_
 rw [zT hC.icput hC.fcput rfl]
 have hsl := h.sl
 subst hbv
 simp (maxSteps := 4000000) only [zr, zh, zx, zN, ze, zi, zm, zq, zu, zg, zp, zk, zI, zP, zS, zQ, Zk, Zl, zt, z7, Zb, zl, zj, zf, zd, zc, Nat.reduceEqDiff, z0, zn, List.getElem?_cons_zero, List.getElem?_cons_succ, z1, zL, Cells.get, getN, Nat.zero_add, if_true, reduceCtorEq, Bool.not_true, pp, pv, Wl, Nat.add_zero, decide_true, decide_false, d100, go, w1, e1]
 refine W.mono (Qm hsl hy (Xd _) (Xd _) hG ?_ ?_) ?_
 · rw [Zp, Zp]; omega
 · rw [Zp, Zp]; omega
 rintro ⟨v1, s1⟩ ⟨h1, X1, b1, _⟩
 simp only at h1 X1 b1
 have ho : o ∉ blk (.slice ab bs.length cb) := fun hk => by have := h.up o hk; omega
 have go1 := X1.keep go ho
 have wo1 := X1.wrs wo
 obtain ⟨a1, c1, hv1⟩ := h1.shape
 have hl1 : (ZZ bs ++ ZZ cs).length = (bs ++ cs).length := by rw [List.length_append, Zp, Zp, List.length_append]
 rw [hl1] at hv1
 subst hv1
 simp (maxSteps := 4000000) only [zK, zi, zm, zq, zg, zp, zY, zk, zS, zQ, Zz, zt, ZO, zl, zf, zy, zd, zc, Nat.reduceEqDiff, z0, z1, zw, zG, Nat.zero_add, Nat.reduceAdd, Zh, Zy, List.length_cons, List.length_nil, allOne, zJ, Bool.and_self, Bool.and_true, Nat.beq_eq, Nat.ble_eq, Nat.reduceLeDiff, if_true, DS.wrC, Cells.size, Cells.fillFrom, Cells.set, Zj, List.length_append, Nat.add_zero, go1, wo1]
 have hup : ∀ k, k ∈ blk (.slice a1 (bs ++ cs).length c1) → o < k := fun k hk => by
  rcases b1 k hk with h2 | h2
  · exact h.up k h2
  · omega
 have X2 : ∀ ob, Ext [o] s1 (s1.upd o ob) := fun ob => Ext.upd (.inl (by simp))
 refine hQ _ ⟨rfl, .slice a1 (bs ++ cs).length c1, ⟨?_, ?_, ?_, hup, ?_⟩, ?_, b1⟩
 · simp (maxSteps := 4000000) only [DS.upd_get_self, Option.map_some, List.length_append, go1]
 · simp (maxSteps := 4000000) only [DS.upd_wr, wo1]
 · rw [Km]
   exact h1.keep (X2 _) fun k hk => by have := hup k hk; simp; omega
 · rw [List.length_append]; exact hlen
 · exact (X1.weaken (by intro k hk; exact .inl (List.mem_cons_of_mem _ hk))).trans' ((X2 _).weaken (by simp))
theorem Ts (h : KW s o bv bs) (hG : s.Good) (x : Int) {size : Nat} (hs : size ≤ 8) (hlen : bs.length + size ≤ 1048576) :
 W (dcall E (d + 2) (.func (.func 93) #[] #[]) [.pointer (some ⟨o, 0, none⟩), .bool true, .int .i64 x, .int .i64 (size : Int)] s) (GH s o bv (bs ++ leB x size)) := by
 have go := h.go
 have wo := h.wo
 have hol := DS.get_lt' go
 have hlf := hC.lf
 refine Zw fun Q hQ => ?_
 rw [zT hC.iclow hC.fclow rfl]
 simp (maxSteps := 4000000) (maxDischargeDepth := 8) only [zr, zh, zx, zN, zM, ze, zi, zm, zq, ZH, ZB, zu, zg, zp, zk, zI, Zd, zP, Qn, zS, zQ, Zl, Zi, zt, z7, Zb, zl, zj, zf, zd, zc, z0, zn, List.getElem?_cons_zero, List.getElem?_cons_succ, z1, zL, Cells.get, getN, Nat.zero_add, if_true, Bool.not_true, pp, pv, pw, pg, decide_true, zX, Nat.reduceLT, Nat.lt_add_one, d93, go]
 obtain ⟨S, hS⟩ : ∃ S : DS, S = s.new (.cells (.list [.int .u8 0, .int .u8 0, .int .u8 0, .int .u8 0, .int .u8 0, .int .u8 0, .int .u8 0, .int .u8 0]) false) := ⟨_, rfl⟩
 rw [← hS]
 have XS : Ext [] s S := by rw [hS]; exact Ext.new
 have hGS := XS.good hG
 have gS : S.get s.next = some (.cells (.list [.int .u8 0, .int .u8 0, .int .u8 0, .int .u8 0, .int .u8 0, .int .u8 0, .int .u8 0, .int .u8 0]) false) := by rw [hS]; exact DS.new_get_self hG
 have wS : S.wr s.next = true := XS.wrs (hG _ (Nat.le_refl _)).2
 refine ZP (M9 S s.next o x size) size (by omega) ⟨0, rfl, Nat.zero_le _, rfl, ?_, .refl, _, by simpa [leB] using gS, by simp [leB]⟩ ?_
 · simp (maxSteps := 4000000) only [zd, zc, Nat.reduceEqDiff, z0, zn, List.getElem?_cons_zero, List.getElem?_cons_succ, Bool.true_and, true_and, reduceCtorEq]
   rfl
 rintro n ⟨t, s2, ds⟩ hn ⟨j, rfl, hj, hds, ⟨g0, g2, g3, g8, g22, g23⟩, X2, rest, gN, hl8⟩
 simp only at hds g0 g2 g3 g8 g22 g23 X2 gN
 subst hds
 have wN := X2.wrs wS
 by_cases c1 : j < size
 · have e1 : (j : Int) < (size : Int) := by omega
   have w1 : zE .i64 ((j : Int) + 1) = ((j + 1 : Nat) : Int) := by rw [zR (by omega) (by omega)]; omega
   have w2 : zE .i64 (8 * (j : Int)) = ((8 * j : Nat) : Int) := by rw [zR (by omega) (by omega)]; omega
   have hsh : Ym .shr .u64 (zE .u64 x) ((8 * j : Nat) : Int) = some (.int .u64 ((zE .u64 x).fdiv (Int.ofNat (2 ^ (8 * j))))) := by
    unfold Ym
    rw [if_neg (by omega)]
    have e2 : Nat.ble (bitsOf .u64) ((8 * j : Nat) : Int).toNat = false := by rw [Yb]; simp [bitsOf]; omega
    simp only [e2, z3, if_false]
    rfl
   have e8 : j < 8 := by omega
   have hlj : (leB x j).length = j := Z3 x j
   have hsize : j + 1 ≤ (leB x j).length + rest.length := by
    rw [List.length_append, List.length_map] at hl8; omega
   simp (maxSteps := 4000000) only [zr, zh, zx, zN, zM, ze, zK, zi, zW, zm, zq, zC, zg, zp, zY, zk, zI, zP, YB, Zz, zt, z7, Zb, zl, zj, zf, zy, zd, zc, Nat.reduceEqDiff, z0, z1, Nat.zero_add, Zh, zZ, List.length_cons, List.length_nil, allOne, zJ, Bool.and_self, Bool.and_true, Nat.beq_eq, Nat.ble_eq, Nat.blt_eq, if_true, DS.wrC, Cells.size, Cells.fillFrom, Cells.set, List.length_append, zD, Nat.mul_one, decide_true, YN, g0, g2, g3, g8, g22, g23, e1, w1, w2, hsh, e8, gN, wN, List.length_map, hsize]
   have hset : ∃ r2, Zj ((leB x j).map (fun n => Value.int .u8 n) ++ rest) j (.int .u8 (leI x j)) = (leB x (j + 1)).map (fun n => .int .u8 n) ++ r2 ∧ ((leB x (j + 1)).map (fun n => Value.int .u8 n) ++ r2).length = 8 := by
    refine ⟨rest.drop 1, ?_, ?_⟩
    · rw [Wy, List.set_append_right _ _ (by rw [List.length_map, hlj]; exact Nat.le_refl _), KE, List.map_append, List.append_assoc]
      congr 1
      rw [List.length_map, hlj, Nat.sub_self]
      cases rest with
      | nil => simp at hsize; omega
      | cons a r => simp
    · rw [KE]
      simp only [List.length_append, List.length_map, List.length_cons, List.length_nil, List.length_drop] at hl8 ⊢
      omega
   obtain ⟨r2, hr2, hl2⟩ := hset
   rw [show zE .u8 ((zE .u64 x).fdiv (Int.ofNat (2 ^ (8 * j)))) = leI x j from rfl, hr2]
   refine ⟨size - (j + 1), by omega, ⟨j + 1, rfl, by omega, rfl, by simp (maxSteps := 4000000) only [zd, zc, Nat.reduceEqDiff, z0, Bool.and_self, and_self, reduceCtorEq, g0, g2, g3, g8, g22, g23], X2.trans' (Ext.upd (.inl (by simp))), r2, ?_, hl2⟩⟩
   simp (maxSteps := 4000000) only [DS.upd_get_self, Option.map_some, gN]
 · obtain rfl : j = size := by omega
   have e1 : ¬ (j : Int) < (j : Int) := by omega
   have hbd : Z6 8 8 none (some (.int .i64 (j : Int))) none = some (0, j, 8) := by
    unfold Z6
    simp only [zD, Nat.ble_eq.mpr hs, if_true]
   simp (maxSteps := 4000000) only [zr, zh, zx, ZA, ze, Ze, Zg, zi, Zf, zm, zq, zu, zg, zp, zk, zI, zP, zF, zt, z7, Zb, zl, zB, zf, zd, zc, Nat.reduceEqDiff, z0, z1, z4, z5, if_true, reduceCtorEq, Option.map_some, Option.map_none, Nat.add_zero, Nat.mul_one, decide_false, Vv, g0, g2, g3, g8, g22, g23, e1, hbd, Yh]
   have h2 : KW s2 o bv bs := by
    have X := XS.trans X2 (by simp)
    exact ⟨X.keep h.go (by simp), X.wrs h.wo, h.sl.keep X (by simp), h.up, h.len⟩
   have hv : SlV s2 1 (.slice (some ⟨s.next, 0, none⟩) j 8) (ZZ (leB x j)) := by
    refine .inr ⟨s.next, 0, none, 8, by rw [Zp, Z3], ?_⟩
    have hfl : (ZZ (leB x j)).flatten = (leB x j).map fun n => .int .u8 n := by
     have : ∀ l : List Int, (ZZ l).flatten = l.map fun n => .int .u8 n := fun l => by
      induction l with
      | nil => rfl
      | cons a l ih => unfold ZZ at ih ⊢; simp [ih]
     exact this _
    unfold DS.read
    rw [gN]
    simp only
    rw [Zp, Z3, Nat.mul_one, ZJ _ _ _ (by omega), hfl]
    simp only [List.drop_zero]
    rw [List.take_append_of_le_length (by rw [List.length_map, Z3]; exact Nat.le_refl _), List.take_of_length_le (by rw [List.length_map, Z3]; exact Nat.le_refl _)]
   refine W.mono (P5 hC h2 (X2.good hGS) hv (by rw [Z3]; exact hlen)) ?_
   rintro ⟨v3, s3⟩ h3
   have hv3 := h3.val
   simp only at hv3
   subst hv3
   simp (maxSteps := 4000000) only [zi, zm, zg, zk, ZO, zf, zw, zG]
   refine hQ _ ⟨rfl, ?_⟩
   have X := XS.trans X2 (F := []) (by simp)
   exact (GH.next (X.weaken (by simp)) (fun k hk => .inl hk) h3).ex
def Dn (_ : Nat) (_ : DS) (v : Value) (x : Int) : Prop := v = .int .i64 x
omit hC in
theorem W4 : QU Dn := ⟨fun _ _ _ _ _ h _ => h, fun _ _ _ _ _ h _ => h⟩
def Ge (size : Nat) (most : Int) (x : Int) : Prop := size = 8 ∨ (0 ≤ x ∧ x ≤ most)
theorem FM {b1 b2 size : Nat} {most : Int} (hs : size ≤ 8) :
 Ji E 3 (.func (.func 92) #[] #[.pointer (some ⟨b1, 0, none⟩), .pointer (some ⟨b2, 0, none⟩)]) [(b1, .cells (.list [.int .i64 (size : Int)]) false), (b2, .cells (.list [.int .i64 most]) false)] Dn (Ge size most) (fun x => leB x size) := by
 intro d s o bv bs v x hD hb h hG hv hx hlen
 have hv : v = .int .i64 x := hv
 subst hv
 have g1 := hD _ (List.mem_cons_self ..)
 have g2 := hD (b2, _) (List.mem_cons_of_mem _ (List.mem_cons_self ..))
 simp only at g1 g2
 rw [Z3] at hlen
 refine Zw fun Q hQ => ?_
 rw [Wm hC.inum1 hC.fnum1 rfl]
 by_cases c1 : size = 8
 · subst c1
   have h8 : ((8 : Nat) : Int) = 8 := rfl
   rw [h8] at g1
   have hcl := Ts (d := d) hC h hG x (size := 8) (Nat.le_refl _) hlen
   rw [h8] at hcl
   simp (maxSteps := 4000000) only [zh, zq, ZH, XL, zg, zp, zk, zI, Zd, zP, Zl, zF, zt, z7, Zb, zl, zj, zB, zf, zd, zc, Nat.reduceEqDiff, z0, zn, List.getElem?_cons_zero, List.getElem?_cons_succ, z1, z4, z5, zL, Cells.get, getN, if_true, if_false, z3, List.nil_append, List.cons_append, pp, pv, pw, pg, decide_true, KI, d92, g1, g2]
   refine W.mono hcl ?_
   rintro ⟨v3, s3⟩ h3
   simp (maxSteps := 4000000) only [zi, zm, zg, zk, ZO, zf, zw, zG]
   exact hQ _ ⟨rfl, h3.ex⟩
 · have e1 : ¬ (size : Int) = 8 := by omega
   have hx : 0 ≤ x ∧ x ≤ most := by
    rcases hx with h | h
    · exact absurd h c1
    · exact h
   obtain ⟨e2, e3⟩ := hx
   simp (maxSteps := 4000000) only [zh, zq, ZH, ZB, Zm, zg, zp, zk, zI, Zd, zP, Zl, zF, zt, z7, Zb, zl, zj, zB, zf, zd, zc, Nat.reduceEqDiff, z0, zn, List.getElem?_cons_zero, List.getElem?_cons_succ, z1, z4, z5, zL, Cells.get, getN, if_true, if_false, z3, List.nil_append, List.cons_append, pp, pv, pw, pg, decide_true, decide_false, d92, g1, g2, e1, e2, e3]
   refine W.mono (Ts hC h hG x hs hlen) ?_
   rintro ⟨v3, s3⟩ h3
   simp (maxSteps := 4000000) only [zi, zm, zg, zk, ZO, zf, zw, zG]
   exact hQ _ ⟨rfl, h3.ex⟩
theorem K3 (hG : s.Good) (size most : Int) :
 W (dcall E (d + 1) (.func (.func 78) #[] #[]) [.int .i64 size, .int .i64 most] s) fun r => r.1 = .agg ⟨[.func (.func 92) #[] #[.pointer (some ⟨s.next, 0, none⟩), .pointer (some ⟨s.next + 1, 0, none⟩)], .func (.func 94) #[] #[.pointer (some ⟨s.next, 0, none⟩), .pointer (some ⟨s.next + 1, 0, none⟩)]]⟩ ∧
  r.2.get s.next = some (.cells (.list [.int .i64 size]) false) ∧ r.2.get (s.next + 1) = some (.cells (.list [.int .i64 most]) false) ∧ Ext [] s r.2 ∧ r.2.next = s.next + 3 := by
 refine Zw fun Q hQ => ?_
 rw [zT hC.inum hC.fnum rfl]
 simp (maxSteps := 4000000) (maxDischargeDepth := 8) only [zr, zh, zV, ze, zi, zm, zq, zg, zY, YA, zk, Yf, Kg, Zz, Zi, Xe, Zo, zH, zl, zf, zy, zd, zc, z0, zn, List.getElem?_cons_zero, List.getElem?_cons_succ, z1, zw, zG, z4, z5, Cells.get, getN, Nat.zero_add, Nat.reduceAdd, Zh, zZ, cells_func, zO, List.length_cons, List.length_nil, allOne, zJ, Bool.and_self, Bool.and_true, Bool.and_eq_true, Nat.beq_eq, Nat.ble_eq, Nat.reduceLeDiff, Nat.le_refl, and_self, if_true, DS.wrC, Cells.size, Cells.fillFrom, Cells.set, Zj, z6, List.take_zero, List.take_succ_cons, List.drop_succ_cons, List.drop_zero, List.nil_append, List.cons_append, List.drop_nil, List.append_nil, pp, DS.upd_get_self, Option.map_some, zU, wrN, DS.read, Cells.take, zo, zA, ZF, zX, Nat.add_assoc, Nat.reduceLT, Nat.lt_add_one, d78, hG]
 refine hQ _ ⟨rfl, ?_, ?_, ?_, ?_⟩
 · simp (maxSteps := 4000000) (maxDischargeDepth := 8) only [z0, Nat.reduceAdd, DS.upd_get_ne, zU, zo, zz, zA, zX, Zu, Nat.add_assoc, Nat.lt_add_one, Nat.succ_pos, hG]
 · simp (maxSteps := 4000000) (maxDischargeDepth := 8) only [z0, Nat.reduceAdd, DS.upd_get_ne, zU, zo, zz, zA, zX, Nat.add_assoc, Nat.lt_add_one, hG]
 · exact (Ext.new.trans' (Ext.new.trans' Ext.new)).trans (Ext.upd (F := [s.next + 2]) (.inl (by simp))) (by simp)
 · simp (maxSteps := 4000000) (maxDischargeDepth := 8) only [Nat.reduceAdd, DS.upd_next, zU, Nat.add_assoc]
section
variable {α β : Type}
def FD (Ra : Nat → DS → Value → α → Prop) (Rb : Nat → DS → Value → β → Prop) (o : Nat) (s : DS) (v : Value) (x : α × β) : Prop := ∃ a b : Value, v = .agg ⟨a.cells.toList ++ b.cells.toList⟩ ∧ Ra o s a x.1 ∧ Rb o s b x.2
omit hC in
theorem VE {α β : Type} {Ra : Nat → DS → Value → α → Prop} {Rb : Nat → DS → Value → β → Prop} (ha : QU Ra) (hb : QU Rb) : QU (FD Ra Rb) :=
 ⟨fun o s s' v x ⟨a, b, e, h1, h2⟩ hs => ⟨a, b, e, ha.stab _ _ _ _ _ h1 hs, hb.stab _ _ _ _ _ h2 hs⟩, fun o o' s v x ⟨a, b, e, h1, h2⟩ hs => ⟨a, b, e, ha.mono _ _ _ _ _ h1 hs, hb.mono _ _ _ _ _ h2 hs⟩⟩
end
theorem CG {f1 f2 : Nat} {fp fg gp gg : Value} {α β : Type} {n : Nat} {Df Dg : List (Nat × DObj)} {Ra : Nat → DS → Value → α → Prop} {Rb : Nat → DS → Value → β → Prop} {Oka : α → Prop} {Okb : β → Prop} {ea : α → List Int} {eb : β → List Int}
 (ha : Ji E n fp Df Ra Oka ea) (hb : Ji E n gp Dg Rb Okb eb) (sa : QU Ra) (sb : QU Rb) (ca : ∀ o s v x, Ra o s v x → (∃ n, v = .int .i64 n)) (cb : ∀ o s v x, Rb o s v x → (∃ n, v = .int .i64 n)) (hcode : E.fn 81 = some d81) (hintr : E.intr 81 = none) :
 Ji E (n + 1) (.func (.func 81) #[] #[.pointer (some ⟨f1, 0, none⟩), .pointer (some ⟨f2, 0, none⟩)]) ((f1, .cells (.list [fp, fg]) false) :: (f2, .cells (.list [gp, gg]) false) :: (Df ++ Dg)) (FD Ra Rb) (fun x => Oka x.1 ∧ Okb x.2) (fun x => ea x.1 ++ eb x.2) := by
 intro d s o bv bs v x hD hb2 h hG hv hx hlen
 obtain ⟨a, b, rfl, hra, hrb⟩ := hv
 have g1 := hD _ (List.mem_cons_self ..)
 have g2 := hD (f2, _) (List.mem_cons_of_mem _ (List.mem_cons_self ..))
 have l1 := hb2 _ (List.mem_cons_self ..)
 have l2 := hb2 (f2, _) (List.mem_cons_of_mem _ (List.mem_cons_self ..))
 simp only at g1 g2 l1 l2
 have hDf : Qi s Df := hD.sub fun p hp => List.mem_cons_of_mem _ (List.mem_cons_of_mem _ (List.mem_append_left _ hp))
 have hDg : Qi s Dg := hD.sub fun p hp => List.mem_cons_of_mem _ (List.mem_cons_of_mem _ (List.mem_append_right _ hp))
 have lf : ∀ p, p ∈ Df → p.1 < o := fun p hp => hb2 p (List.mem_cons_of_mem _ (List.mem_cons_of_mem _ (List.mem_append_left _ hp)))
 have lg : ∀ p, p ∈ Dg → p.1 < o := fun p hp => hb2 p (List.mem_cons_of_mem _ (List.mem_cons_of_mem _ (List.mem_append_right _ hp)))
 have hol := DS.get_lt' h.go
 have l1s : f1 < s.next := Nat.lt_trans l1 hol
 have l2s : f2 < s.next := Nat.lt_trans l2 hol
 rw [List.length_append] at hlen
 have hca := ca _ _ _ _ hra
 have hcb := cb _ _ _ _ hrb
 refine Zw fun Q hQ => ?_
 show W (dcall E ((d + n) + 1) _ _ _) Q
 rw [Wm hintr hcode rfl]
 obtain ⟨a, rfl⟩ := hca
 obtain ⟨b, rfl⟩ := hcb
 simp (maxSteps := 4000000) (maxDischargeDepth := 8) only [zr, zh, ze, zi, zm, zq, zg, zp, zk, zI, zQ, Zl, Xe, zF, zt, zl, zf, zd, zc, z0, zn, List.getElem?_cons_zero, List.getElem?_cons_succ, z1, z4, z5, zL, Cells.get, getN, zZ, zO, List.nil_append, List.cons_append, pp, pv, Nat.add_zero, zo, zz, zX, Nat.reduceLT, Nat.lt_add_one, Nat.succ_pos, d81, g1, g2, hG, l1s, l2s]
 obtain ⟨S1, hS1⟩ : ∃ S1 : DS, S1 = s.new (.cells (.list [.int .i64 a, .int .i64 b]) false) := ⟨_, rfl⟩
 rw [← hS1]
 have X1 : ∀ F, Ext F s S1 := fun F => by rw [hS1]; exact Ext.new
 have gS : S1.get s.next = some (.cells (.list [.int .i64 a, .int .i64 b]) false) := by rw [hS1]; exact DS.new_get_self hG
 have Y1 : Same o s S1 := fun k hk => (X1 []).get k (Nat.lt_trans hk hol) (by simp)
 have O1 : KW S1 o bv bs := ⟨(X1 []).keep h.go (by simp), (X1 []).wrs h.wo, h.sl.keep (X1 []) (by simp), h.up, h.len⟩
 refine W.mono (ha d S1 o bv bs _ x.1 (hDf.keep (X1 []) (by simp)) lf O1 ((X1 []).good hG) (sa.stab _ _ _ _ _ hra Y1) hx.1 (by omega)) ?_
 rintro ⟨v2, s2⟩ ⟨hv2, bv2, O2, X2, b2⟩
 simp only at hv2 O2 X2 b2
 have Y2 := FB O1 X2
 have YY := Y1.trans Y2
 have gS2 := X2.keep gS (by
  simp only [List.mem_cons, not_or]
  exact ⟨by omega, fun hk => by have := h.sl.lt _ hk; omega⟩)
 have g22 := (YY f2 l2).trans g2
 simp (maxSteps := 4000000) only [zh, ze, zi, zm, zq, zg, zp, zk, zI, zQ, Zl, zF, zt, zl, zf, zd, zc, Nat.reduceEqDiff, z0, zn, List.getElem?_cons_zero, List.getElem?_cons_succ, z1, z4, z5, zL, Cells.get, getN, Nat.zero_add, reduceCtorEq, Nat.add_zero, gS2, g22]
 refine W.mono (hb d s2 o bv2 (bs ++ ea x.1) _ x.2 (hDg.same lg YY) lg O2 (X2.good ((X1 []).good hG)) (sb.stab _ _ _ _ _ hrb YY) hx.2 (by rw [List.length_append]; omega)) ?_
 rintro ⟨v3, s3⟩ h3
 have hv3 := h3.val
 simp only at hv3
 subst hv3
 have X12 : Ext (o :: blk bv) s s2 := (X1 _).trans' X2
 have h4 := GH.next X12 (fun k hk => by
  rcases b2 k hk with h | h
  · exact .inl h
  · exact .inr (Nat.le_trans (X1 []).le h)) h3
 simp (maxSteps := 4000000) only [zi, zm, zg, zk, ZO, zf, zw, zG]
 refine hQ _ ?_
 rw [← List.append_assoc]
 exact h4
theorem CI {f1 f2 : Nat} {fp fg gp gg : Value} {α β : Type} {n : Nat} {Df Dg : List (Nat × DObj)} {Ra : Nat → DS → Value → α → Prop} {Rb : Nat → DS → Value → β → Prop} {Oka : α → Prop} {Okb : β → Prop} {ea : α → List Int} {eb : β → List Int}
 (ha : Ji E n fp Df Ra Oka ea) (hb : Ji E n gp Dg Rb Okb eb) (sa : QU Ra) (sb : QU Rb) (ca : ∀ o s v x, Ra o s v x → (∃ n, v = .int .i64 n)) (cb : ∀ o s v x, Rb o s v x → (∃ b n c, v = .slice b n c)) (hcode : E.fn 76 = some d76) (hintr : E.intr 76 = none) :
 Ji E (n + 1) (.func (.func 76) #[] #[.pointer (some ⟨f1, 0, none⟩), .pointer (some ⟨f2, 0, none⟩)]) ((f1, .cells (.list [fp, fg]) false) :: (f2, .cells (.list [gp, gg]) false) :: (Df ++ Dg)) (FD Ra Rb) (fun x => Oka x.1 ∧ Okb x.2) (fun x => ea x.1 ++ eb x.2) := by
 intro d s o bv bs v x hD hb2 h hG hv hx hlen
 obtain ⟨a, b, rfl, hra, hrb⟩ := hv
 have g1 := hD _ (List.mem_cons_self ..)
 have g2 := hD (f2, _) (List.mem_cons_of_mem _ (List.mem_cons_self ..))
 have l1 := hb2 _ (List.mem_cons_self ..)
 have l2 := hb2 (f2, _) (List.mem_cons_of_mem _ (List.mem_cons_self ..))
 simp only at g1 g2 l1 l2
 have hDf : Qi s Df := hD.sub fun p hp => List.mem_cons_of_mem _ (List.mem_cons_of_mem _ (List.mem_append_left _ hp))
 have hDg : Qi s Dg := hD.sub fun p hp => List.mem_cons_of_mem _ (List.mem_cons_of_mem _ (List.mem_append_right _ hp))
 have lf : ∀ p, p ∈ Df → p.1 < o := fun p hp => hb2 p (List.mem_cons_of_mem _ (List.mem_cons_of_mem _ (List.mem_append_left _ hp)))
 have lg : ∀ p, p ∈ Dg → p.1 < o := fun p hp => hb2 p (List.mem_cons_of_mem _ (List.mem_cons_of_mem _ (List.mem_append_right _ hp)))
 have hol := DS.get_lt' h.go
 have l1s : f1 < s.next := Nat.lt_trans l1 hol
 have l2s : f2 < s.next := Nat.lt_trans l2 hol
 rw [List.length_append] at hlen
 have hca := ca _ _ _ _ hra
 have hcb := cb _ _ _ _ hrb
 refine Zw fun Q hQ => ?_
 show W (dcall E ((d + n) + 1) _ _ _) Q
 rw [Wm hintr hcode rfl]
 obtain ⟨a, rfl⟩ := hca
 obtain ⟨b1, b2, b3, rfl⟩ := hcb
 simp (maxSteps := 4000000) (maxDischargeDepth := 8) only [zr, zh, ze, zi, zm, zq, zg, zp, zk, zI, zQ, Zl, Xe, zF, zt, zl, zf, zd, zc, z0, zn, List.getElem?_cons_zero, List.getElem?_cons_succ, z1, z4, z5, zL, Cells.get, getN, zZ, Zy, zO, List.nil_append, List.cons_append, pp, pv, Nat.add_zero, zo, zz, zX, Nat.reduceLT, Nat.lt_add_one, Nat.succ_pos, d76, g1, g2, hG, l1s, l2s]
 obtain ⟨S1, hS1⟩ : ∃ S1 : DS, S1 = s.new (.cells (.list [.int .i64 a, .slice b1 b2 b3]) false) := ⟨_, rfl⟩
 rw [← hS1]
 have X1 : ∀ F, Ext F s S1 := fun F => by rw [hS1]; exact Ext.new
 have gS : S1.get s.next = some (.cells (.list [.int .i64 a, .slice b1 b2 b3]) false) := by rw [hS1]; exact DS.new_get_self hG
 have Y1 : Same o s S1 := fun k hk => (X1 []).get k (Nat.lt_trans hk hol) (by simp)
 have O1 : KW S1 o bv bs := ⟨(X1 []).keep h.go (by simp), (X1 []).wrs h.wo, h.sl.keep (X1 []) (by simp), h.up, h.len⟩
 refine W.mono (ha d S1 o bv bs _ x.1 (hDf.keep (X1 []) (by simp)) lf O1 ((X1 []).good hG) (sa.stab _ _ _ _ _ hra Y1) hx.1 (by omega)) ?_
 rintro ⟨v2, s2⟩ ⟨hv2, bv2, O2, X2, b2⟩
 simp only at hv2 O2 X2 b2
 have Y2 := FB O1 X2
 have YY := Y1.trans Y2
 have gS2 := X2.keep gS (by
  simp only [List.mem_cons, not_or]
  exact ⟨by omega, fun hk => by have := h.sl.lt _ hk; omega⟩)
 have g22 := (YY f2 l2).trans g2
 simp (maxSteps := 4000000) only [zh, ze, zi, zm, zq, zg, zp, zk, zI, zQ, Zl, zF, zt, zl, zf, zd, zc, Nat.reduceEqDiff, z0, zn, List.getElem?_cons_zero, List.getElem?_cons_succ, z1, z4, z5, zL, Cells.get, getN, Nat.zero_add, reduceCtorEq, Nat.add_zero, gS2, g22]
 refine W.mono (hb d s2 o bv2 (bs ++ ea x.1) _ x.2 (hDg.same lg YY) lg O2 (X2.good ((X1 []).good hG)) (sb.stab _ _ _ _ _ hrb YY) hx.2 (by rw [List.length_append]; omega)) ?_
 rintro ⟨v3, s3⟩ h3
 have hv3 := h3.val
 simp only at hv3
 subst hv3
 have X12 : Ext (o :: blk bv) s s2 := (X1 _).trans' X2
 have h4 := GH.next X12 (fun k hk => by
  rcases b2 k hk with h | h
  · exact .inl h
  · exact .inr (Nat.le_trans (X1 []).le h)) h3
 simp (maxSteps := 4000000) only [zi, zm, zg, zk, ZO, zf, zw, zG]
 refine hQ _ ?_
 rw [← List.append_assoc]
 exact h4
def Pv {α : Type} (sz : Nat) (R : Nat → DS → Value → α → Prop) (o : Nat) (s : DS) (v : Value) (xs : List α) : Prop := ∃ l : List (List Value), l.length = xs.length ∧ ZI sz l ∧ ((v = .slice none 0 0 ∧ l = []) ∨ ∃ b off sp c, v = .slice (some ⟨b, off, sp⟩) l.length c ∧ b < o ∧ s.read b off (l.length * sz) = some l.flatten) ∧ ∀ (i : Nat) (r : List Value) (x : α), l[i]? = some r → xs[i]? = some x → R o s (.agg ⟨r⟩) x
omit hC in
theorem FE {α : Type} {sz : Nat} {R : Nat → DS → Value → α → Prop} (h : QU R) : QU (Pv sz R) := ⟨fun o s s' v xs ⟨l, h1, h2, h3, h4⟩ hs => ⟨l, h1, h2, by
 rcases h3 with h3 | ⟨b, off, sp, c, e1, e2, e3⟩
 · exact .inl h3
 · refine .inr ⟨b, off, sp, c, e1, e2, ?_⟩
   unfold DS.read at e3 ⊢
   rw [hs b e2]; exact e3, fun i r x hr hx => h.stab _ _ _ _ _ (h4 i r x hr hx) hs⟩, fun o o' s v xs ⟨l, h1, h2, h3, h4⟩ hs => ⟨l, h1, h2, by
 rcases h3 with h3 | ⟨b, off, sp, c, e1, e2, e3⟩
 · exact .inl h3
 · exact .inr ⟨b, off, sp, c, e1, Nat.lt_of_lt_of_le e2 hs, e3⟩, fun i r x hr hx => h.mono _ _ _ _ _ (h4 i r x hr hx) hs⟩⟩
def Qh {α : Type} (e : α → List Int) (xs : List α) : List Int := xs.flatMap e
structure Nd {α : Type} (s0 : DS) (o c1 f1 : Nat) (bv v : Value) (bs : List Int) (e : α → List Int) (xs : List α) (n : Nat) (y : St) : Prop where
 ex : ∃ j : Nat, n = xs.length - j ∧ j ≤ xs.length ∧ y.defers = [] ∧ (y.t.get 0 = some (.pointer (some ⟨o, 0, none⟩)) ∧ y.t.get 1 = some v ∧ y.t.get 3 = some (.pointer (some ⟨f1, 0, none⟩)) ∧ y.t.get 6 = some (.int .i64 (j : Int))) ∧
  y.s.Good ∧ GH s0 o bv (bs ++ Qh e (xs.take j)) (.tuple #[], y.s)
theorem Ct {c1 f1 : Nat} {cp cg fp fg : Value} {α : Type} {n : Nat} {Dc Df : List (Nat × DObj)} {R : Nat → DS → Value → α → Prop} {Ok : α → Prop} {e : α → List Int}
 (hc : Ji E n cp Dc Dn (Ge 2 4096) (fun x => leB x 2)) (hf : Ji E n fp Df R Ok e) (sR : QU R) (hcode : E.fn 79 = some d79) (hintr : E.intr 79 = none) :
 Ji E (n + 1) (.func (.func 79) #[] #[.pointer (some ⟨c1, 0, none⟩), .pointer (some ⟨f1, 0, none⟩)]) ((c1, .cells (.list [cp, cg]) false) :: (f1, .cells (.list [fp, fg]) false) :: (Dc ++ Df)) (Pv 2 R) (fun xs => xs.length ≤ 4096 ∧ ∀ x, x ∈ xs → Ok x) (fun xs => leB xs.length 2 ++ Qh e xs) := by
 intro d s o bv bs v xs hD hb2 h hG hv hx hlen
 have g1 := hD _ (List.mem_cons_self ..)
 have g2 := hD (f1, _) (List.mem_cons_of_mem _ (List.mem_cons_self ..))
 have l1 := hb2 _ (List.mem_cons_self ..)
 have l2 := hb2 (f1, _) (List.mem_cons_of_mem _ (List.mem_cons_self ..))
 simp only at g1 g2 l1 l2
 have hDc : Qi s Dc := hD.sub fun p hp => List.mem_cons_of_mem _ (List.mem_cons_of_mem _ (List.mem_append_left _ hp))
 have hDf : Qi s Df := hD.sub fun p hp => List.mem_cons_of_mem _ (List.mem_cons_of_mem _ (List.mem_append_right _ hp))
 have lc : ∀ p, p ∈ Dc → p.1 < o := fun p hp => hb2 p (List.mem_cons_of_mem _ (List.mem_cons_of_mem _ (List.mem_append_left _ hp)))
 have lf : ∀ p, p ∈ Df → p.1 < o := fun p hp => hb2 p (List.mem_cons_of_mem _ (List.mem_cons_of_mem _ (List.mem_append_right _ hp)))
 have hol := DS.get_lt' h.go
 have hlf := hC.lf
 have hvl : ∃ a c, v = .slice a xs.length c := by
  obtain ⟨l, h1, _, h3 | ⟨b, off, sp, c, e1, _⟩, _⟩ := hv
  · obtain ⟨rfl, rfl⟩ := h3
    rw [← h1]; exact ⟨none, 0, rfl⟩
  · rw [← h1]; exact ⟨_, c, e1⟩
 obtain ⟨va, vc, hvv⟩ := hvl
 rw [List.length_append, Z3] at hlen
 refine Zw fun Q hQ => ?_
 show W (dcall E ((d + n) + 1) _ _ _) Q
 rw [Wm hintr hcode rfl]
 subst hvv
 simp (maxSteps := 4000000) only [zr, zh, zq, zg, zp, zk, zI, zQ, Zk, Zl, zF, zt, zl, zf, zd, zc, Nat.reduceEqDiff, z0, zn, List.getElem?_cons_zero, List.getElem?_cons_succ, z1, z4, z5, zL, Cells.get, getN, reduceCtorEq, List.nil_append, List.cons_append, pp, pv, pw, pg, Nat.add_zero, d79, g1]
 refine W.mono (hc d s o bv bs _ (xs.length : Int) hDc lc h hG rfl (.inr ⟨by omega, by omega⟩) (by rw [Z3]; omega)) ?_
 rintro ⟨v2, s2⟩ h2
 have hv2 := h2.val
 simp only at hv2
 subst hv2
 simp (maxSteps := 4000000) only [zr, zh, zN, ze, zi, zm, zq, zg, zI, zj, zf]
 have hG2 : s2.Good := by obtain ⟨_, _, _, X, _⟩ := h2; exact X.good hG
 refine ZP (Nd s o c1 f1 bv (.slice va xs.length vc) (bs ++ leB xs.length 2) e xs) xs.length (by omega) ⟨0, rfl, Nat.zero_le _, rfl, ?_, hG2, by simpa [Qh] using h2⟩ ?_
 · simp (maxSteps := 4000000) only [zd, zc, Nat.reduceEqDiff, z0, zn, List.getElem?_cons_zero, List.getElem?_cons_succ, Bool.true_and, true_and, reduceCtorEq]
   rfl
 rintro m ⟨t, s3, ds⟩ hm ⟨j, rfl, hj, hds, ⟨g0, gv, g3, g6⟩, hG3, ⟨_, bv3, O3, X3, b3⟩⟩
 simp only at hds g0 gv g3 g6 hG3 O3 X3 b3
 subst hds
 have Y3 := FB h X3
 by_cases c2 : j < xs.length
 · have hx0 : xs[j]? = some xs[j] := List.getElem?_eq_getElem c2
   generalize xs[j] = x0 at hx0
   obtain ⟨l, hl1, hl2, hl3, hl4⟩ := (FE (sz := 2) sR).stab _ _ _ _ _ hv Y3
   have hr0 : l[j]? = some l[j] := List.getElem?_eq_getElem (by omega)
   generalize l[j] = r0 at hr0
   rcases hl3 with ⟨h8, h9⟩ | ⟨b, off, sp, c, h8, h9, h10⟩
   · rw [h9] at hl1; simp at hl1; omega
   rw [hl1] at h8
   cases h8
   have hld : ldA 2 (.pointer (some ⟨b, off + j * 2, none⟩)) s3 = some (.agg ⟨r0⟩) := by
    unfold ldA
    simp only [VZ h10 hl2.len hr0]
   have e1 : (j : Int) < (xs.length : Int) := by omega
   have go3 := O3.go
   have g23 := (Y3 f1 l2).trans g2
   have w1 : zE .i64 ((j : Int) + 1) = ((j + 1 : Nat) : Int) := by rw [zR (by omega) (by omega)]; omega
   simp (maxSteps := 4000000) (maxDischargeDepth := 8) only [zr, zh, zx, zN, zM, ze, zi, zm, zq, ZH, ZB, zC, zg, zp, zk, zI, Zd, zP, zS, zQ, Yy, Zk, Zl, zF, zt, z7, Zb, zl, zj, zf, zd, zc, z0, z1, z4, z5, zL, Cells.get, getN, Nat.zero_add, Nat.blt_eq, if_true, YF, Nat.add_zero, zD, decide_true, zX, Nat.reduceLT, Nat.lt_add_one, Nat.succ_pos, g0, gv, g3, g6, e1, go3, c2, g23, hld]
   have hcat : Qh e (xs.take (j + 1)) = Qh e (xs.take j) ++ e x0 := by
    unfold Qh
    rw [List.take_add_one, List.flatMap_append]
    simp [hx0]
   have hle : (Qh e (xs.take (j + 1))).length ≤ (Qh e xs).length := by
    unfold Qh
    have : xs = xs.take (j + 1) ++ xs.drop (j + 1) := (List.take_append_drop _ _).symm
    conv => rhs; rw [this, List.flatMap_append, List.length_append]
    exact Nat.le_add_right _ _
   refine W.mono (hf d s3 o bv3 _ _ x0 (hDf.same lf Y3) lf O3 hG3 (hl4 j r0 x0 hr0 hx0) (hx.2 _ (List.mem_of_getElem? hx0)) ?_) ?_
   · rw [hcat] at hle
     simp only [List.length_append, Z3] at hle ⊢
     omega
   rintro ⟨v4, s4⟩ h4
   have hv4 := h4.val
   simp only at hv4
   subst hv4
   have hG4 : s4.Good := by obtain ⟨_, _, _, X, _⟩ := h4; exact X.good hG3
   simp (maxSteps := 4000000) (maxDischargeDepth := 8) only [zh, ze, zK, zi, zW, zm, zq, zg, zp, zk, zI, zP, z7, Zb, zl, zj, zf, zd, zc, z0, z1, if_true, zX, Nat.reduceLT, g0, gv, g3, g6, w1]
   refine ⟨xs.length - (j + 1), by omega, ⟨j + 1, rfl, by omega, rfl, by simp (maxSteps := 4000000) only [zd, zc, Nat.reduceEqDiff, z0, Bool.and_self, and_self, reduceCtorEq, g0, gv, g3, g6], hG4, ?_⟩⟩
   rw [hcat, ← List.append_assoc]
   exact GH.next X3 b3 h4
 · obtain rfl : j = xs.length := by omega
   have e1 : ¬ (xs.length : Int) < (xs.length : Int) := by omega
   simp (maxSteps := 4000000) only [zr, zh, zx, ZA, ze, Ze, Zg, zi, Zf, zm, zq, ZH, XM, zu, zg, zp, zk, zI, Zd, zP, Zk, zt, z7, Zb, ZO, zl, zj, zf, zd, zc, Nat.reduceEqDiff, z0, z1, zw, zG, if_true, if_false, z3, List.nil_append, decide_false, g0, gv, g3, g6, e1]
   refine hQ _ ⟨rfl, ?_⟩
   rw [List.take_length, List.append_assoc] at O3
   exact ⟨bv3, O3, X3, b3⟩
theorem FZ {α β : Type} {n m : Nat} (hm : m ≤ s.next) {va vb : Value} {Ra : Nat → DS → Value → α → Prop} {Rb : Nat → DS → Value → β → Prop} {Oka : α → Prop} {Okb : β → Prop} {ea : α → List Int} {eb : β → List Int}
 (hG : s.Good) (ha : Yl E n m s va Ra Oka ea) (hb : Yl E n m s vb Rb Okb eb) (hcode : E.fn 59 = some d59) (hintr : E.intr 59 = none)
 (hput : ∀ {f1 f2 : Nat} {fp fg gp gg : Value} {Df Dg : List (Nat × DObj)}, Ji E n fp Df Ra Oka ea → Ji E n gp Dg Rb Okb eb → Ji E (n + 1) (.func (.func 81) #[] #[.pointer (some ⟨f1, 0, none⟩), .pointer (some ⟨f2, 0, none⟩)]) ((f1, .cells (.list [fp, fg]) false) :: (f2, .cells (.list [gp, gg]) false) :: (Df ++ Dg)) (FD Ra Rb) (fun x => Oka x.1 ∧ Okb x.2) (fun x => ea x.1 ++ eb x.2)) :
 W (dcall E (d + 1) (.func (.func 59) #[] #[]) [va, vb] s) fun r => Yl E (n + 1) m r.2 r.1 (FD Ra Rb) (fun x => Oka x.1 ∧ Okb x.2) (fun x => ea x.1 ++ eb x.2) ∧ Ext [] s r.2 := by
 obtain ⟨f1, a1, b1, g1, p1, q1, D1, rfl, h2, h3, h4⟩ := ha
 obtain ⟨f2, a2, b2, g2, p2, q2, D2, rfl, k2, k3, k4⟩ := hb
 refine Zw fun Q hQ => ?_
 rw [zT hintr hcode rfl]
 simp (maxSteps := 4000000) (maxDischargeDepth := 8) only [zr, zh, zx, zM, zV, ze, zi, zm, zq, ZH, Zm, zu, zg, zp, zY, YA, ZD, zk, zI, Zd, Z5, Yf, Kg, zQ, Zl, Zz, Zi, Xe, zt, Zo, Zv, zH, zl, zj, zf, zy, zd, zc, z0, zn, List.getElem?_cons_zero, List.getElem?_cons_succ, z1, zw, zG, z4, z5, zL, Cells.get, getN, Nat.zero_add, Nat.reduceAdd, Zh, cells_func, zO, List.length_cons, List.length_nil, allOne, zJ, Bool.and_self, Bool.and_true, Bool.and_eq_true, Nat.beq_eq, Nat.ble_eq, Nat.reduceLeDiff, Nat.le_refl, and_self, if_true, if_false, Bool.not_false, z3, DS.wrC, Cells.size, Cells.fillFrom, Cells.set, Zj, z6, List.take_zero, List.take_succ_cons, List.drop_succ_cons, List.drop_zero, List.nil_append, List.cons_append, List.drop_nil, List.append_nil, pp, pv, pg, DS.upd_get_self, Option.map_some, zU, wrN, Nat.add_zero, DS.read, Cells.take, zo, zz, zA, ZF, zX, Zu, Nat.add_assoc, Nat.reduceLT, Nat.lt_add_one, Nat.succ_pos, d59, hG]
 have X : ∀ o1 o2 o3 o4, Ext [] s ((((s.new o1).new o2).new o3).upd (s.next + 2) o4) := fun _ _ _ _ => (Ext.new.trans' (Ext.new.trans' Ext.new)).trans (Ext.upd (F := [s.next + 2]) (.inl (by simp))) (by simp)
 refine hQ _ ⟨⟨_, _, _, _, _, _, _, rfl, ?_, ?_, hput (f1 := s.next) (f2 := s.next + 1) (fg := .func (.func g1) p1 q1) (gg := .func (.func g2) p2 q2) h4 k4⟩, X _ _ _ _⟩
 · intro p hp
   rcases List.mem_cons.1 hp with rfl | hp
   · simp (maxSteps := 4000000) (maxDischargeDepth := 8) only [z0, Nat.reduceAdd, DS.upd_get_ne, zU, zo, zz, zA, zX, Zu, Nat.add_assoc, Nat.lt_add_one, Nat.succ_pos, hG]
   · rcases List.mem_cons.1 hp with rfl | hp
     · simp (maxSteps := 4000000) (maxDischargeDepth := 8) only [z0, Nat.reduceAdd, DS.upd_get_ne, zU, zo, zz, zA, zX, Nat.add_assoc, Nat.lt_add_one, hG]
     · rcases List.mem_append.1 hp with hp | hp
       · exact (X _ _ _ _).keep (h2 p hp) (by simp)
       · exact (X _ _ _ _).keep (k2 p hp) (by simp)
 · intro p hp
   have hn : ∀ o1 o2 o3 o4, ((((s.new o1).new o2).new o3).upd (s.next + 2) o4).next = s.next + 3 := fun _ _ _ _ => by simp (maxSteps := 4000000) (maxDischargeDepth := 8) only [Nat.reduceAdd, DS.upd_next, zU, Nat.add_assoc]
   rw [hn]
   rcases List.mem_cons.1 hp with rfl | hp
   · show m ≤ s.next ∧ s.next < s.next + 3; omega
   · rcases List.mem_cons.1 hp with rfl | hp
     · show m ≤ s.next + 1 ∧ s.next + 1 < s.next + 3; omega
     · rcases List.mem_append.1 hp with hp | hp
       · have := h3 p hp; omega
       · have := k3 p hp; omega
theorem F0 {α β : Type} {n m : Nat} (hm : m ≤ s.next) {va vb : Value} {Ra : Nat → DS → Value → α → Prop} {Rb : Nat → DS → Value → β → Prop} {Oka : α → Prop} {Okb : β → Prop} {ea : α → List Int} {eb : β → List Int}
 (hG : s.Good) (ha : Yl E n m s va Ra Oka ea) (hb : Yl E n m s vb Rb Okb eb) (hcode : E.fn 56 = some d56) (hintr : E.intr 56 = none)
 (hput : ∀ {f1 f2 : Nat} {fp fg gp gg : Value} {Df Dg : List (Nat × DObj)}, Ji E n fp Df Ra Oka ea → Ji E n gp Dg Rb Okb eb → Ji E (n + 1) (.func (.func 76) #[] #[.pointer (some ⟨f1, 0, none⟩), .pointer (some ⟨f2, 0, none⟩)]) ((f1, .cells (.list [fp, fg]) false) :: (f2, .cells (.list [gp, gg]) false) :: (Df ++ Dg)) (FD Ra Rb) (fun x => Oka x.1 ∧ Okb x.2) (fun x => ea x.1 ++ eb x.2)) :
 W (dcall E (d + 1) (.func (.func 56) #[] #[]) [va, vb] s) fun r => Yl E (n + 1) m r.2 r.1 (FD Ra Rb) (fun x => Oka x.1 ∧ Okb x.2) (fun x => ea x.1 ++ eb x.2) ∧ Ext [] s r.2 := by
 obtain ⟨f1, a1, b1, g1, p1, q1, D1, rfl, h2, h3, h4⟩ := ha
 obtain ⟨f2, a2, b2, g2, p2, q2, D2, rfl, k2, k3, k4⟩ := hb
 refine Zw fun Q hQ => ?_
 rw [zT hintr hcode rfl]
 simp (maxSteps := 4000000) (maxDischargeDepth := 8) only [zr, zh, zx, zM, zV, ze, zi, zm, zq, ZH, Zm, zu, zg, zp, zY, YA, ZD, zk, zI, Zd, Z5, Yf, Kg, zQ, Zl, Zz, Zi, Xe, zt, Zo, Zv, zH, zl, zj, zf, zy, zd, zc, z0, zn, List.getElem?_cons_zero, List.getElem?_cons_succ, z1, zw, zG, z4, z5, zL, Cells.get, getN, Nat.zero_add, Nat.reduceAdd, Zh, cells_func, zO, List.length_cons, List.length_nil, allOne, zJ, Bool.and_self, Bool.and_true, Bool.and_eq_true, Nat.beq_eq, Nat.ble_eq, Nat.reduceLeDiff, Nat.le_refl, and_self, if_true, if_false, Bool.not_false, z3, DS.wrC, Cells.size, Cells.fillFrom, Cells.set, Zj, z6, List.take_zero, List.take_succ_cons, List.drop_succ_cons, List.drop_zero, List.nil_append, List.cons_append, List.drop_nil, List.append_nil, pp, pv, pg, DS.upd_get_self, Option.map_some, zU, wrN, Nat.add_zero, DS.read, Cells.take, zo, zz, zA, ZF, zX, Zu, Nat.add_assoc, Nat.reduceLT, Nat.lt_add_one, Nat.succ_pos, d56, hG]
 have X : ∀ o1 o2 o3 o4, Ext [] s ((((s.new o1).new o2).new o3).upd (s.next + 2) o4) := fun _ _ _ _ => (Ext.new.trans' (Ext.new.trans' Ext.new)).trans (Ext.upd (F := [s.next + 2]) (.inl (by simp))) (by simp)
 refine hQ _ ⟨⟨_, _, _, _, _, _, _, rfl, ?_, ?_, hput (f1 := s.next) (f2 := s.next + 1) (fg := .func (.func g1) p1 q1) (gg := .func (.func g2) p2 q2) h4 k4⟩, X _ _ _ _⟩
 · intro p hp
   rcases List.mem_cons.1 hp with rfl | hp
   · simp (maxSteps := 4000000) (maxDischargeDepth := 8) only [z0, Nat.reduceAdd, DS.upd_get_ne, zU, zo, zz, zA, zX, Zu, Nat.add_assoc, Nat.lt_add_one, Nat.succ_pos, hG]
   · rcases List.mem_cons.1 hp with rfl | hp
     · simp (maxSteps := 4000000) (maxDischargeDepth := 8) only [z0, Nat.reduceAdd, DS.upd_get_ne, zU, zo, zz, zA, zX, Nat.add_assoc, Nat.lt_add_one, hG]
     · rcases List.mem_append.1 hp with hp | hp
       · exact (X _ _ _ _).keep (h2 p hp) (by simp)
       · exact (X _ _ _ _).keep (k2 p hp) (by simp)
 · intro p hp
   have hn : ∀ o1 o2 o3 o4, ((((s.new o1).new o2).new o3).upd (s.next + 2) o4).next = s.next + 3 := fun _ _ _ _ => by simp (maxSteps := 4000000) (maxDischargeDepth := 8) only [Nat.reduceAdd, DS.upd_next, zU, Nat.add_assoc]
   rw [hn]
   rcases List.mem_cons.1 hp with rfl | hp
   · show m ≤ s.next ∧ s.next < s.next + 3; omega
   · rcases List.mem_cons.1 hp with rfl | hp
     · show m ≤ s.next + 1 ∧ s.next + 1 < s.next + 3; omega
     · rcases List.mem_append.1 hp with hp | hp
       · have := h3 p hp; omega
       · have := k3 p hp; omega
theorem FP {α : Type} {n m : Nat} (hm : m ≤ s.next) {v : Value} {R : Nat → DS → Value → α → Prop} {Ok : α → Prop} {e : α → List Int}
 (hG : s.Good) (ha : Yl E n m s v R Ok e) (hn : 3 ≤ n) (sR : QU R) (hcode : E.fn 58 = some d58) (hintr : E.intr 58 = none) (hcode1 : E.fn 79 = some d79) (hintr1 : E.intr 79 = none) :
 W (dcall E (d + 2) (.func (.func 58) #[] #[]) [v] s) fun r => Yl E (n + 1) m r.2 r.1 (Pv 2 R) (fun xs => xs.length ≤ 4096 ∧ ∀ x, x ∈ xs → Ok x) (fun xs => leB xs.length 2 ++ Qh e xs) ∧ Ext [] s r.2 := by
 obtain ⟨f1, a1, b1, g1, p1, q1, D1, rfl, h2, h3, h4⟩ := ha
 refine Zw fun Q hQ => ?_
 rw [zT hintr hcode rfl]
 simp (maxSteps := 4000000) (maxDischargeDepth := 8) only [zr, zh, zx, zM, ze, zi, zm, zq, zu, zg, zp, ZD, zk, Z5, zQ, Zl, Zi, Xe, zF, zt, Zv, zl, zj, zB, zf, zd, zc, z0, zn, List.getElem?_cons_zero, z1, z4, z5, zL, Cells.get, getN, zO, if_false, Bool.not_false, z3, pp, zU, Nat.add_zero, zo, zz, zA, zX, Nat.lt_add_one, d58, hG]
 obtain ⟨S, hS⟩ : ∃ S : DS, S = (s.new (.cells (.list [.func (.func f1) a1 b1, .func (.func g1) p1 q1]) false)).new (.cells (.list [.nilFunc, .nilFunc]) false) := ⟨_, rfl⟩
 rw [← hS]
 have XS : Ext [] s S := by rw [hS]; exact Ext.new.trans' Ext.new
 have nS : S.next = s.next + 2 := by rw [hS]; simp (maxSteps := 4000000) (maxDischargeDepth := 8) only [Nat.reduceAdd, zU, Nat.add_assoc]
 have hGS := XS.good hG
 have S0 : S.get s.next = some (.cells (.list [.func (.func f1) a1 b1, .func (.func g1) p1 q1]) false) := by rw [hS]; simp (maxSteps := 4000000) (maxDischargeDepth := 8) only [zU, zo, zz, zA, Nat.lt_add_one, hG]
 have S1 : S.get (s.next + 1) = some (.cells (.list [.nilFunc, .nilFunc]) false) := by rw [hS]; simp (maxSteps := 4000000) (maxDischargeDepth := 8) only [zU, zo, zA, hG]
 have wS : S.wr (s.next + 1) = true := XS.wrs (hG _ (by omega)).2
 refine W.mono (K3 hC hGS 2 4096) ?_
 rintro ⟨v2, s2⟩ ⟨hv2, n1, n2, X2, hn2⟩
 simp only at hv2 n1 n2 X2 hn2
 subst hv2
 have hG2 := X2.good hGS
 have T1 := X2.keep S1 (by simp)
 have wT := X2.wrs wS
 have hlt : s.next + 1 < s2.next := by omega
 rw [nS] at n1 n2 hn2 ⊢
 simp (maxSteps := 4000000) (maxDischargeDepth := 8) only [zr, zh, zV, ze, zi, zm, zq, zg, zY, YA, zk, Yf, Kg, Zz, Zi, Zo, zH, zl, zf, zy, zd, zc, z0, z1, zw, zG, z4, z5, Cells.get, getN, Nat.zero_add, Nat.reduceAdd, Zh, cells_func, zO, List.length_cons, List.length_nil, allOne, zJ, Bool.and_self, Bool.and_true, Bool.and_eq_true, Nat.beq_eq, Nat.ble_eq, Nat.reduceLeDiff, Nat.le_refl, and_self, if_true, DS.wrC, Cells.size, Cells.fillFrom, Cells.set, Zj, z6, List.take_zero, List.take_succ_cons, List.drop_succ_cons, List.drop_zero, List.nil_append, List.cons_append, List.drop_nil, List.append_nil, DS.upd_get_self, DS.upd_get_ne, DS.upd_wr, Option.map_some, wrN, DS.read, Cells.take, zo, zz, zA, DS.upd_good, ZF, zX, ZW, Nat.add_assoc, Nat.reduceLT, Nat.lt_add_one, hG2, T1, wT, hlt]
 refine hQ _ ⟨⟨_, _, _, _, _, _, (s2.next, .cells (.list [.func (.func 92) #[] #[.pointer (some ⟨s.next + 2, 0, none⟩), .pointer (some ⟨s.next + 3, 0, none⟩)], .func (.func 94) #[] #[.pointer (some ⟨s.next + 2, 0, none⟩), .pointer (some ⟨s.next + 3, 0, none⟩)]]) false) :: (s.next, .cells (.list [.func (.func f1) a1 b1, .func (.func g1) p1 q1]) false) :: ([(s.next + 2, .cells (.list [.int .i64 ((2 : Nat) : Int)]) false), (s.next + 3, .cells (.list [.int .i64 4096]) false)] ++ D1), rfl, ?_, ?_, Ct hC ((FM hC (b1 := s.next + 2) (b2 := s.next + 3) (size := 2) (most := 4096) (by omega)).mono hn) h4 sR hcode1 hintr1⟩, ?_⟩
 · intro p hp
   rcases List.mem_cons.1 hp with rfl | hp
   · simp (maxSteps := 4000000) (maxDischargeDepth := 8) only [z0, DS.upd_get_self, DS.upd_get_ne, Option.map_some, zo, hG2, show ¬ s2.next = s.next + 1 by omega]
   · rcases List.mem_cons.1 hp with rfl | hp
     · simp (maxSteps := 4000000) (maxDischargeDepth := 8) only [z0, DS.upd_get_ne, zz, zX, Nat.lt_add_one, hG2, show ¬ s.next = s2.next by omega, show s.next < s2.next by omega, X2.keep S0 (by simp)]
     · rcases List.mem_append.1 hp with hp | hp
       · rcases List.mem_cons.1 hp with rfl | hp
         · simp (maxSteps := 4000000) (maxDischargeDepth := 8) only [z0, DS.upd_get_ne, zz, ZW, Nat.lt_add_one, hG2, show ¬ s.next + 2 = s2.next by omega, show s.next + 2 < s2.next by omega, n1]
           rfl
         · rcases List.mem_cons.1 hp with rfl | hp
           · simp (maxSteps := 4000000) (maxDischargeDepth := 8) only [z0, DS.upd_get_ne, zz, ZW, Nat.reduceLT, Nat.add_lt_add_iff_left, hG2, show ¬ s.next + 3 = s2.next by omega, show s.next + 3 < s2.next by omega, n2]
           · cases hp
       · have h5 := h3 p hp
         have h6 := X2.keep (XS.keep (h2 p hp) (by simp)) (by simp)
         simp (maxSteps := 4000000) (maxDischargeDepth := 8) only [z0, DS.upd_get_ne, zz, hG2, show ¬ p.1 = s2.next by omega, show ¬ p.1 = s.next + 1 by omega, show p.1 < s2.next by omega, h6]
 · intro p hp
   have hfin : m ≤ p.1 ∧ p.1 < s2.next + 1 := by
    rcases List.mem_cons.1 hp with rfl | hp
    · show m ≤ s2.next ∧ s2.next < s2.next + 1; omega
    · rcases List.mem_cons.1 hp with rfl | hp
      · show m ≤ s.next ∧ s.next < s2.next + 1; omega
      · rcases List.mem_append.1 hp with hp | hp
        · rcases List.mem_cons.1 hp with rfl | hp
          · show m ≤ s.next + 2 ∧ s.next + 2 < s2.next + 1; omega
          · rcases List.mem_cons.1 hp with rfl | hp
            · show m ≤ s.next + 3 ∧ s.next + 3 < s2.next + 1; omega
            · cases hp
        · have h5 := h3 p hp; omega
   simp (maxSteps := 4000000) (maxDischargeDepth := 8) only [DS.upd_next, zU]
   exact hfin
 · have X3 := XS.trans' X2
   have X4 : Ext [s2.next, s.next + 1] s2 (((s2.new (.cells (.list [.nilFunc, .nilFunc]) false)).upd s2.next (.cells (.list [.func (.func 92) #[] #[.pointer (some ⟨s.next + 2, 0, none⟩), .pointer (some ⟨s.next + 3, 0, none⟩)], .func (.func 94) #[] #[.pointer (some ⟨s.next + 2, 0, none⟩), .pointer (some ⟨s.next + 3, 0, none⟩)]]) false)).upd (s.next + 1) (.cells (.list [.func (.func 79) #[] #[.pointer (some ⟨s2.next, 0, none⟩), .pointer (some ⟨s.next, 0, none⟩)], .func (.func 80) #[] #[.pointer (some ⟨s2.next, 0, none⟩), .pointer (some ⟨s.next, 0, none⟩)]]) false)) := Ext.new.trans' ((Ext.upd (.inl (by simp))).trans' (Ext.upd (.inl (by simp))))
   exact X3.trans X4 (by simp; omega)
theorem Du (hG : s.Good) {m : Nat} (hm : m ≤ s.next) (hcode : E.fn 57 = some d57) (hintr : E.intr 57 = none) :
 W (dcall E (d + 2) (.func (.func 57) #[] #[]) [] s) fun r => Yl E 3 m r.2 r.1 Dn (Ge 2 65535) (fun x => leB x 2) ∧ Ext [] s r.2 := by
 refine Zw fun Q hQ => ?_
 rw [zT hintr hcode rfl]
 simp (maxSteps := 4000000) (maxDischargeDepth := 8) only [zr, zh, ze, zi, zm, zq, zg, Zi, zF, zj, zB, zf, z4, z5, pp, d57, hG]
 refine W.mono (K3 hC (DS.new_good hG) _ _) ?_
 rintro ⟨v2, s2⟩ ⟨hv2, n1, n2, X2, hn2⟩
 simp only [DS.new_next] at hv2 n1 n2 X2 hn2
 subst hv2
 have T0 := X2.keep (DS.new_get_self (o := .cells (.list [.nilFunc, .nilFunc]) false) hG) (by simp)
 have wT := X2.wrs (show (s.new (.cells (.list [.nilFunc, .nilFunc]) false)).wr s.next = true from (hG _ (Nat.le_refl _)).2)
 simp (maxSteps := 4000000) (maxDischargeDepth := 8) only [zV, ze, zi, zm, zq, zg, zY, zk, Zz, Zo, zH, zl, zf, zy, zd, zc, z0, z1, zw, zG, Cells.get, getN, Nat.zero_add, Nat.reduceAdd, Zh, zO, List.length_cons, List.length_nil, allOne, zJ, Bool.and_self, Bool.and_true, Nat.beq_eq, Nat.ble_eq, Nat.le_refl, if_true, DS.wrC, Cells.size, Cells.fillFrom, Cells.set, Zj, DS.upd_get_self, Option.map_some, DS.read, Cells.take, zX, Nat.add_assoc, Nat.lt_add_one, T0, wT]
 have X3 : ∀ o, Ext [] s (s2.upd s.next o) := fun o => (Ext.new.trans' X2).trans (Ext.upd (F := [s.next]) (.inl (by simp))) (by simp)
 refine hQ _ ⟨⟨_, _, _, _, _, _, [(s.next + 1, .cells (.list [.int .i64 ((2 : Nat) : Int)]) false), (s.next + 2, .cells (.list [.int .i64 65535]) false)], rfl, ?_, ?_, FM hC (by omega)⟩, X3 _⟩
 · intro p hp
   rcases List.mem_cons.1 hp with rfl | hp
   · simp (maxSteps := 4000000) (maxDischargeDepth := 8) only [z0, DS.upd_get_ne, n1, show ¬ s.next + 1 = s.next by omega]
     rfl
   · rcases List.mem_cons.1 hp with rfl | hp
     · simp (maxSteps := 4000000) (maxDischargeDepth := 8) only [z0, DS.upd_get_ne, n2, show ¬ s.next + 2 = s.next by omega]
     · cases hp
 · intro p hp
   have : m ≤ p.1 ∧ p.1 < s2.next := by
    rcases List.mem_cons.1 hp with rfl | hp
    · show m ≤ s.next + 1 ∧ s.next + 1 < s2.next; omega
    · rcases List.mem_cons.1 hp with rfl | hp
      · show m ≤ s.next + 2 ∧ s.next + 2 < s2.next; omega
      · cases hp
   simp (maxSteps := 4000000) (maxDischargeDepth := 8) only [DS.upd_next]
   exact this
theorem Vj (hG : s.Good) {m : Nat} (hm : m ≤ s.next) (hcode : E.fn 60 = some d60) (hintr : E.intr 60 = none) :
 W (dcall E (d + 2) (.func (.func 60) #[] #[]) [] s) fun r => Yl E 3 m r.2 r.1 Dn (Ge 8 0) (fun x => leB x 8) ∧ Ext [] s r.2 := by
 refine Zw fun Q hQ => ?_
 rw [zT hintr hcode rfl]
 simp (maxSteps := 4000000) (maxDischargeDepth := 8) only [zr, zh, ze, zi, zm, zq, zg, Zi, zF, zj, zB, zf, z4, z5, pp, d60, hG]
 refine W.mono (K3 hC (DS.new_good hG) _ _) ?_
 rintro ⟨v2, s2⟩ ⟨hv2, n1, n2, X2, hn2⟩
 simp only [DS.new_next] at hv2 n1 n2 X2 hn2
 subst hv2
 have T0 := X2.keep (DS.new_get_self (o := .cells (.list [.nilFunc, .nilFunc]) false) hG) (by simp)
 have wT := X2.wrs (show (s.new (.cells (.list [.nilFunc, .nilFunc]) false)).wr s.next = true from (hG _ (Nat.le_refl _)).2)
 simp (maxSteps := 4000000) (maxDischargeDepth := 8) only [zV, ze, zi, zm, zq, zg, zY, zk, Zz, Zo, zH, zl, zf, zy, zd, zc, z0, z1, zw, zG, Cells.get, getN, Nat.zero_add, Nat.reduceAdd, Zh, zO, List.length_cons, List.length_nil, allOne, zJ, Bool.and_self, Bool.and_true, Nat.beq_eq, Nat.ble_eq, Nat.le_refl, if_true, DS.wrC, Cells.size, Cells.fillFrom, Cells.set, Zj, DS.upd_get_self, Option.map_some, DS.read, Cells.take, zX, Nat.add_assoc, Nat.lt_add_one, T0, wT]
 have X3 : ∀ o, Ext [] s (s2.upd s.next o) := fun o => (Ext.new.trans' X2).trans (Ext.upd (F := [s.next]) (.inl (by simp))) (by simp)
 refine hQ _ ⟨⟨_, _, _, _, _, _, [(s.next + 1, .cells (.list [.int .i64 ((8 : Nat) : Int)]) false), (s.next + 2, .cells (.list [.int .i64 0]) false)], rfl, ?_, ?_, FM hC (by omega)⟩, X3 _⟩
 · intro p hp
   rcases List.mem_cons.1 hp with rfl | hp
   · simp (maxSteps := 4000000) (maxDischargeDepth := 8) only [z0, DS.upd_get_ne, n1, show ¬ s.next + 1 = s.next by omega]
     rfl
   · rcases List.mem_cons.1 hp with rfl | hp
     · simp (maxSteps := 4000000) (maxDischargeDepth := 8) only [z0, DS.upd_get_ne, n2, show ¬ s.next + 2 = s.next by omega]
     · cases hp
 · intro p hp
   have : m ≤ p.1 ∧ p.1 < s2.next := by
    rcases List.mem_cons.1 hp with rfl | hp
    · show m ≤ s.next + 1 ∧ s.next + 1 < s2.next; omega
    · rcases List.mem_cons.1 hp with rfl | hp
      · show m ≤ s.next + 2 ∧ s.next + 2 < s2.next; omega
      · cases hp
   simp (maxSteps := 4000000) (maxDischargeDepth := 8) only [DS.upd_next]
   exact this
theorem P7 {v : Value} {l : List Int} (h : SlC s 1 v (ZZ l)) (hcode : E.fn 63 = some d63) (hintr : E.intr 63 = none) :
 ∃ w, dcall E (d + 1) (.func (.func 63) #[] #[]) [v] s = some (w, s) ∧ SlV s 1 w (ZZ l) ∧ (∃ a, w = .slice a l.length l.length ∧ ∀ x, a = some x → x.spot = none) ∧ blk w = blk v := by
 obtain ⟨a, c, hv, hc⟩ := h.shape'
 have hvw := h.view (Xd l)
 rw [Zp] at hv hc
 have e1 : Nat.ble l.length c = true := Nat.ble_eq.mpr hc
 have e2 : Nat.ble l.length l.length = true := Nat.ble_eq.mpr (Nat.le_refl _)
 have key : ∀ w, slV 1 v none (some (.int .i64 (l.length : Int))) (some (.int .i64 (l.length : Int))) = some w → dcall E (d + 1) (.func (.func 63) #[] #[]) [v] s = some (w, s) := by
  intro w hw
  rw [← Jg, zT hintr hcode rfl]
  subst hv
  simp (maxSteps := 4000000) only [zr, zh, zV, ze, zi, zm, zq, zg, zp, zk, zI, Zk, zt, zH, zl, zj, zf, zd, zc, Nat.reduceEqDiff, z0, zn, List.getElem?_cons_zero, z1, zw, zG, reduceCtorEq, pp, pv, Option.map_some, Ke, Option.map_none, d63, hw]
 rcases hvw with ⟨h1, h2⟩ | ⟨b, off, sp, c', h1, h2⟩
 · have hl : l = [] := by simpa [ZZ] using h2
   subst hl
   rw [h1] at hv
   cases hv
   exact ⟨.slice none 0 0, key _ (by subst h1; rfl), .inl ⟨rfl, rfl⟩, ⟨none, rfl, fun _ h => (nomatch h)⟩, by rw [h1]⟩
 · rw [Zp] at h1
   have hw : slV 1 v none (some (.int .i64 (l.length : Int))) (some (.int .i64 (l.length : Int))) = some (.slice (some ⟨b, off, none⟩) l.length l.length) := by
    rw [hv] at h1
    cases h1
    rw [hv]
    unfold slV Z6
    simp only [zD, e1, e2, if_true, Option.isSome_some, Yh, Nat.zero_mul, Nat.add_zero, Nat.sub_zero]
   exact ⟨_, key _ hw, .inr ⟨b, off, none, l.length, by rw [Zp], h2⟩, ⟨_, rfl, fun _ h => by cases h; rfl⟩, by rw [h1]; rfl⟩
theorem DM {α : Type} {n m : Nat} {fv xv : Value} {Rep : Nat → DS → Value → α → Prop} {Ok : α → Prop} {enc : α → List Int} {x : α} {x1 : Int} {x2 : Option Addr} {x3 x4 : Nat} (hG : s.Good) (hf : Yl E n m s fv Rep Ok enc) (hr : Rep s.next s xv x) (hst : QU Rep) (hok : Ok x) (hlen : (enc x).length ≤ 1048576)
 (hxv : xv = .agg ⟨[.int .i64 x1, .slice x2 x3 x4]⟩) (hcode : E.fn 42 = some d42) (hintr : E.intr 42 = none) (hclip : E.fn 63 = some d63) (iclip : E.intr 63 = none) :
 W (dcall E ((d + n + 1) + 1) (.func (.func 42) #[] #[]) [fv, xv] s) fun r => ∃ w, r.1 = .tuple ⟨[w, .int .i64 0]⟩ ∧ SlV r.2 1 w (ZZ (enc x)) ∧ (∃ a, w = .slice a (enc x).length (enc x).length ∧ ∀ z, a = some z → z.spot = none) ∧ (∀ k, k ∈ blk w → s.next ≤ k ∧ k < r.2.next) ∧ Ext [] s r.2 := by
 obtain ⟨f, a, b, g, a', b', D, rfl, h2, h3, h4⟩ := hf
 subst hxv
 refine Zw fun Q hQ => ?_
 rw [zT hintr hcode rfl]
 simp (maxSteps := 4000000) (maxDischargeDepth := 8) only [zr, zh, zx, zM, ze, zi, zm, zq, zu, zg, zp, YA, ZD, zk, zI, Z5, Yf, zQ, Zl, Xe, zF, zt, Zv, zl, zj, zf, zd, zc, z0, zn, List.getElem?_cons_zero, List.getElem?_cons_succ, z1, z4, z5, zL, Cells.get, getN, Nat.reduceAdd, zO, if_false, Bool.not_false, z3, z6, pp, pv, zU, YF, ldA, Nat.add_zero, DS.read, Cells.take, zo, zz, zA, zX, Zu, Nat.add_assoc, Nat.reduceLT, Nat.lt_add_one, Nat.succ_pos, d42, hG]
 obtain ⟨S, hS⟩ : ∃ S : DS, S = ((s.new (.cells (.list [.func (.func f) a b, .func (.func g) a' b']) false)).new (.cells (.list [.int .i64 x1, .slice x2 x3 x4]) false)).new (.cells (.list [.slice none 0 0, .int .i64 0]) false) := ⟨_, rfl⟩
 rw [← hS]
 have XS : Ext [] s S := by rw [hS]; exact Ext.new.trans' (Ext.new.trans' Ext.new)
 have nS : S.next = s.next + 3 := by rw [hS]; simp (maxSteps := 4000000) (maxDischargeDepth := 8) only [Nat.reduceAdd, zU, Nat.add_assoc]
 have hGS := XS.good hG
 have S0 : S.get s.next = some (.cells (.list [.func (.func f) a b, .func (.func g) a' b']) false) := by rw [hS]; simp (maxSteps := 4000000) (maxDischargeDepth := 8) only [Nat.reduceAdd, zU, zo, zz, zA, Zu, Nat.add_assoc, Nat.lt_add_one, Nat.succ_pos, hG]
 have S1 : S.get (s.next + 1) = some (.cells (.list [.int .i64 x1, .slice x2 x3 x4]) false) := by rw [hS]; simp (maxSteps := 4000000) (maxDischargeDepth := 8) only [Nat.reduceAdd, zU, zo, zz, zA, Nat.add_assoc, Nat.lt_add_one, hG]
 have S2 : S.get (s.next + 2) = some (.cells (.list [.slice none 0 0, .int .i64 0]) false) := by rw [hS]; simp (maxSteps := 4000000) (maxDischargeDepth := 8) only [Nat.reduceAdd, zU, zo, zA, Nat.add_assoc, hG]
 have O : KW S (s.next + 2) (.slice none 0 0) [] := ⟨S2, XS.wrs (hG _ (by omega)).2, by simpa [ZZ] using SlC.nil, by simp [blk], by simp⟩
 have hY : Same (s.next) s S := fun k hk => XS.get k hk (by simp)
 have hld : ldA 2 (.pointer (some ⟨s.next + 1, 0, none⟩)) S = some (.agg ⟨[.int .i64 x1, .slice x2 x3 x4]⟩) := by
  unfold ldA DS.read
  simp only [S1]
  rfl
 rw [show d + (n + 1) = (d + 1) + n by omega]
 refine W.mono (h4 (d + 1) S (s.next + 2) _ [] _ x (h2.keep XS (by simp)) (fun p hp => by have := h3 p hp; omega) O hGS (hst.mono _ _ _ _ _ (hst.stab _ _ _ _ _ hr hY) (by omega)) hok (by simpa using hlen)) ?_
 rintro ⟨v3, s3⟩ ⟨hv3, bv3, O3, X3, b3⟩
 simp only at hv3 O3 X3 b3
 subst hv3
 rw [List.nil_append] at O3
 have go3 := O3.go
 obtain ⟨w, hw1, hw2, hw3, hw4⟩ := P7 hC (d := d + n) O3.sl hclip iclip
 rw [show (d + n) + 1 = (d + 1) + n by omega] at hw1
 simp (maxSteps := 4000000) only [zr, zh, zx, zM, zV, ze, zi, zm, zq, zu, zg, zp, zk, zI, zP, zS, zQ, Zl, zF, zt, z7, Zb, zH, zl, zj, zB, zf, zd, zc, Nat.reduceEqDiff, z0, z1, zw, zG, z4, z5, zL, Cells.get, getN, Nat.zero_add, if_true, Bool.not_true, Nat.add_zero, decide_true, go3, hw1]
 have X4 : Ext [] s s3 := XS.trans X3 (by simp [blk])
 refine hQ _ ⟨w, rfl, hw2, hw3, fun k hk => ?_, X4⟩
 rw [hw4] at hk
 refine ⟨?_, O3.sl.lt k hk⟩
 have := O3.up k hk
 omega
end
end Go.Dx.StA
namespace Go.Dx.StA
open Go Go.Dx Go.Dx.Search Go.Dx.St Go.Proofs.Ytnmajohhfcgddaa
theorem Yl.of_get {α : Type} {E : Env} {n m : Nat} {s s' : DS} {v : Value} {Rep : Nat → DS → Value → α → Prop} {Ok : α → Prop} {enc : α → List Int} (h : Yl E n m s v Rep Ok enc) (e : ∀ k, s'.get k = s.get k) (hn : s.next ≤ s'.next) : Yl E n m s' v Rep Ok enc := by
 obtain ⟨f, a, b, g, a', b', D, h1, h2, h3, h4⟩ := h
 exact ⟨f, a, b, g, a', b', D, h1, fun p hp => (e _).trans (h2 p hp), fun p hp => ⟨(h3 p hp).1, Nat.lt_of_lt_of_le (h3 p hp).2 hn⟩, h4⟩
structure Fu (E : Env) : Prop where
 f57 : E.fn 57 = some d57
 i57 : E.intr 57 = none
 f60 : E.fn 60 = some d60
 i60 : E.intr 60 = none
 f59 : E.fn 59 = some d59
 i59 : E.intr 59 = none
 f81 : E.fn 81 = some d81
 i81 : E.intr 81 = none
 f58 : E.fn 58 = some d58
 i58 : E.intr 58 = none
 f79 : E.fn 79 = some d79
 i79 : E.intr 79 = none
 f56 : E.fn 56 = some d56
 i56 : E.intr 56 = none
 f76 : E.fn 76 = some d76
 i76 : E.intr 76 = none
 f38 : E.fn 38 = some d38
 i38 : E.intr 38 = none
 f42 : E.fn 42 = some d42
 i42 : E.intr 42 = none
 f63 : E.fn 63 = some d63
 i63 : E.intr 63 = none
 f18 : E.fn 18 = some d18
 i18 : E.intr 18 = none
 fr : ∀ d, Z4 (dcall E d)
abbrev GF := Int × List Ent
def SH : Nat → DS → Value → GF → Prop := FD Dn (Pv 2 (FD Dn Dn))
theorem SG : QU SH := VE W4 (FE (VE W4 W4))
def MX (x : GF) : Prop := Ge 2 65535 x.1 ∧ (x.2.length ≤ 4096 ∧ ∀ y, y ∈ x.2 → Ge 8 0 y.1 ∧ Ge 8 0 y.2)
def Jw (y : Ent) : List Int := leB y.1 8 ++ leB y.2 8
def Ru (x : GF) : List Int := leB x.1 2 ++ (leB x.2.length 2 ++ Qh Jw x.2)
section
variable {E : Env} (hC : Ch E) (hP : Fu E) {s : DS} {d : Nat}
include hC hP
theorem PS (hG : s.Good) : W (dcall E (d + 3) (.func (.func 38) #[] #[]) [] s) fun r => Yl E 6 s.next r.2 r.1 SH MX Ru ∧ Ext [] s r.2 := by
 refine Zw fun Q hQ => ?_
 rw [zT hP.i38 hP.f38 rfl]
 simp (maxSteps := 4000000) (maxDischargeDepth := 8) only [zr, zh, ze, zi, zm, zq, zg, Zi, zF, zB, zf, z5, pp, d38, hG]
 have h0 : ∀ o, (s.new o).get s.next = some o := fun o => DS.new_get_self hG
 have w0 : (s.new (.cells (.list [.nilFunc, .nilFunc]) false)).wr s.next = true := (hG _ (Nat.le_refl _)).2
 refine W.mono (Du hC (m := s.next + 1) (DS.new_good hG) (Nat.le_refl _) hP.f57 hP.i57) ?_
 rintro ⟨v1, s1⟩ ⟨q1, X1⟩
 simp only at q1 X1
 have hG1 := X1.good (DS.new_good hG)
 simp (maxSteps := 4000000) only [zq, zg, zF, zB, zf, z5]
 refine W.mono (Vj hC (m := s.next + 1) hG1 X1.le hP.f60 hP.i60) ?_
 rintro ⟨v2, s2⟩ ⟨q2, X2⟩
 simp only at q2 X2
 have hG2 := X2.good hG1
 simp (maxSteps := 4000000) only [zq, zg, zF, zB, zf, z5]
 refine W.mono (Vj hC (m := s.next + 1) hG2 (Nat.le_trans X1.le X2.le) hP.f60 hP.i60) ?_
 rintro ⟨v3, s3⟩ ⟨q3, X3⟩
 simp only at q3 X3
 have hG3 := X3.good hG2
 simp (maxSteps := 4000000) only [zq, zg, zF, zl, zB, zf, zd, zc, Nat.reduceEqDiff, z0, z1, z4, z5]
 refine W.mono (FZ hC (Nat.le_trans X1.le (Nat.le_trans X2.le X3.le)) hG3 (q2.keep X3) q3 hP.f59 hP.i59 fun ha hb => CG hC ha hb W4 W4 (fun _ _ _ x h => ⟨x, h⟩) (fun _ _ _ x h => ⟨x, h⟩) hP.f81 hP.i81) ?_
 rintro ⟨v4, s4⟩ ⟨q4, X4⟩
 simp only at q4 X4
 have hG4 := X4.good hG3
 simp (maxSteps := 4000000) only [zq, zg, zF, zl, zB, zf, zd, z1, z4, z5]
 refine W.mono (FP hC (Nat.le_trans X1.le (Nat.le_trans X2.le (Nat.le_trans X3.le X4.le))) hG4 q4 (by omega) (VE W4 W4) hP.f58 hP.i58 hP.f79 hP.i79) ?_
 rintro ⟨v5, s5⟩ ⟨q5, X5⟩
 simp only at q5 X5
 have hG5 := X5.good hG4
 simp (maxSteps := 4000000) only [zq, zg, zF, zl, zB, zf, zd, zc, Nat.reduceEqDiff, z0, z1, z4, z5]
 have X15 := X2.trans' (X3.trans' (X4.trans' X5))
 refine W.mono (F0 hC (Nat.le_trans X1.le X15.le) hG5 ((q1.keep X15).mono (show 3 ≤ 5 by omega)) q5 hP.f56 hP.i56 fun ha hb => CI hC ha hb W4 (FE (VE W4 W4)) (fun _ _ _ x h => ⟨x, h⟩) (fun _ _ v _ h => by
  obtain ⟨l, _, _, h3 | ⟨b, off, sp, c, e1, _⟩, _⟩ := h
  · exact ⟨none, 0, 0, h3.1⟩
  · exact ⟨_, _, _, e1⟩) hP.f76 hP.i76) ?_
 rintro ⟨v6, s6⟩ ⟨q6, X6⟩
 simp only at q6 X6
 have X06 := X1.trans' (X15.trans' X6)
 have g6 := X06.keep (h0 _) (by simp)
 have w6 := X06.wrs w0
 obtain ⟨f, a, b, g, a', b', D, rfl, k2, k3, k4⟩ := q6
 simp (maxSteps := 4000000) (maxDischargeDepth := 8) only [zV, ze, zi, zm, zq, zg, zY, zk, Zz, Zo, zH, zl, zf, zy, zd, zc, z0, z1, zw, zG, Cells.get, getN, Nat.zero_add, Nat.reduceAdd, Zh, zO, List.length_cons, List.length_nil, allOne, zJ, Bool.and_self, Bool.and_true, Nat.beq_eq, Nat.ble_eq, Nat.le_refl, if_true, DS.wrC, Cells.size, Cells.fillFrom, Cells.set, Zj, DS.upd_get_self, Option.map_some, DS.read, Cells.take, zX, Nat.lt_add_one, Nat.succ_pos, g6, w6]
 have X7 : ∀ o, Ext [] s (s6.upd s.next o) := fun o => (Ext.new.trans' X06).trans (Ext.upd (F := [s.next]) (.inl (by simp))) (by simp)
 refine hQ _ ⟨⟨f, a, b, g, a', b', D, rfl, fun p hp => ?_, fun p hp => ?_, k4⟩, X7 _⟩
 · have := (k3 p hp).1
   simp only [DS.new_next] at this
   simp (maxSteps := 4000000) (maxDischargeDepth := 8) only [z0, DS.upd_get_ne, k2 p hp, show ¬ p.1 = s.next by omega]
 · have := k3 p hp
   simp only [DS.new_next] at this
   simp (maxSteps := 4000000) (maxDischargeDepth := 8) only [DS.upd_next]
   omega
def Mx : DCode := (.seq (.region [pv 4 17]) (.region [pv 5 18]))
def Nq : DCode := (.block 1 (.region [pp 19 (.fadr 1 (tm 3)), pp 20 (.ld none (tm 19)), pv 21 4, pv 22 5, pp 23 (.build [.int .i64 0, .int .i64 0] [(0, 1, .tmp 21), (1, 1, .tmp 22)]), pp 24 (.bslice 1 2 [.int .i64 0, .int .i64 0] [(0, 2, .tmp 23)]), pp 25 (.bapp 16 2 (tm 20) (tm 24)), pp 26 (.fadr 1 (tm 3)), ⟨none, .st 1 (tm 26) (tm 25), none, [], false⟩]))
def ZM (L : List Ent) : List (List Value) := L.map fun x => [.int .i64 x.1, .int .i64 x.2]
omit hC hP in
theorem Ye (L : List Ent) : ZI 2 (ZM L) := ⟨fun x hx => by obtain ⟨y, _, rfl⟩ := List.mem_map.1 hx; rfl, fun x hx => by obtain ⟨y, _, rfl⟩ := List.mem_map.1 hx; rfl⟩
omit hC hP in
theorem ZY (L : List Ent) : (ZM L).length = L.length := List.length_map ..
structure MJ (U : DS) (n3 y1 : Nat) (room : Int) (tt : PT Value) (A B : DCode) (L : List Ent) (i : Nat) (S : DS) : Prop where
 ex : ∃ bw, Ext [n3, y1] U S ∧ S.get n3 = some (.cells (.list [.int .i64 room, bw]) false) ∧ SlC S 2 bw (ZM (L.take i)) ∧ (∀ k, k ∈ blk bw → U.next ≤ k) ∧ S.get y1 = some (Wn tt [17, 18] A B)
def XJ (room : Int) (L : List Ent) : List Int := Ru (room, L)
variable (hF : Fns E) (hI : Its E) {p : Nat} {kv vv : Value} {L : List Ent} {room : Int}
include hF hI
theorem VP (c : Xg s p kv vv L room) (hG : s.Good) (hroom : 0 ≤ room ∧ room ≤ 65535) (hl : L.length ≤ 4096) :
 W (dcall E (d + 12) (.func (.func 18) #[] #[]) [.pointer (some ⟨p, 0, none⟩)] s) fun r => SlV r.2 1 r.1 (ZZ (XJ room L)) ∧ (∃ a, r.1 = .slice a (XJ room L).length (XJ room L).length ∧ ∀ z, a = some z → z.spot = none) ∧ (∀ k, k ∈ blk r.1 → s.next ≤ k ∧ k < r.2.next) ∧ Ext [] s r.2 := by
 have hlf := hF.lf
 have hlen := c.len
 have hlt := c.lt
 have gp := c.gp
 have hpl := hlt p (List.mem_cons_self ..)
 obtain ⟨A, hA⟩ : ∃ A, A = Mx := ⟨_, rfl⟩
 obtain ⟨B, hB⟩ : ∃ B, B = Nq := ⟨_, rfl⟩
 refine Zw fun Q hQ => ?_
 rw [zT hP.i18 hP.f18 rfl]
 simp (maxSteps := 4000000) (maxDischargeDepth := 8) only [zr, zh, zx, zN, zM, ze, zi, zm, zq, zu, zg, zp, zY, YA, ZD, zk, zI, Z5, zS, Yf, zQ, Zl, Zz, Zi, zF, zt, Zv, zl, zj, zB, zf, zy, zd, zc, z0, zn, List.getElem?_cons_zero, z1, z4, z5, zL, Cells.get, getN, Nat.zero_add, Nat.reduceAdd, Zh, zZ, zO, List.length_cons, List.length_nil, allOne, zJ, Bool.and_self, Bool.and_true, Bool.and_eq_true, Nat.beq_eq, Nat.ble_eq, Nat.reduceLeDiff, Nat.le_refl, and_self, if_true, if_false, Bool.not_false, z3, DS.wrC, Cells.size, Cells.fillFrom, Cells.set, Zj, z6, List.take_zero, List.drop_succ_cons, List.drop_zero, List.nil_append, List.cons_append, pp, pv, DS.upd_next, zU, wrN, zo, zA, ZF, zX, ZW, Nat.reduceLT, Nat.succ_pos, d18, gp, CT hI, hG, hpl]
 refine Cc (by simp (maxSteps := 4000000) only [zl, zd, z1]; rfl) ?_
 simp (maxSteps := 4000000) (maxDischargeDepth := 8) only [Nat.reduceAdd, DS.upd_next, zU, Nat.add_assoc]
 obtain ⟨T, hT⟩ : ∃ T : DS, T = ((s.new (.cells (.list [.int .i64 0, .slice none 0 0]) false)).upd s.next (.cells (.list [.int .i64 room, .slice none 0 0]) false)).new (.cells (.list [.pointer (some ⟨p, 0, none⟩)]) false) := ⟨_, rfl⟩
 rw [← hT]
 have XT : Ext [] s T := by rw [hT]; exact (Ext.new.trans (Ext.upd (F := [s.next]) (.inl (by simp))) (by simp)).trans' Ext.new
 have nT : T.next = s.next + 2 := by rw [hT]; simp (maxSteps := 4000000) (maxDischargeDepth := 8) only [Nat.reduceAdd, DS.upd_next, zU, Nat.add_assoc]
 have hGT := XT.good hG
 have T0 : T.get s.next = some (.cells (.list [.int .i64 room, .slice none 0 0]) false) := by rw [hT]; simp (maxSteps := 4000000) (maxDischargeDepth := 8) only [DS.upd_get_self, DS.upd_next, Option.map_some, zU, zo, zz, zA, DS.upd_good, Nat.lt_add_one, hG]
 have T1 : T.get (s.next + 1) = some (.cells (.list [.pointer (some ⟨p, 0, none⟩)]) false) := by rw [hT]; simp (maxSteps := 4000000) (maxDischargeDepth := 8) only [DS.upd_next, zU, zo, zA, DS.upd_good, hG]
 generalize hO : Wn _ _ _ _ = O
 obtain ⟨tt, hO2, t3⟩ : ∃ tt, O = Wn tt [17, 18] A B ∧ tt.get 3 = some (.pointer (some ⟨s.next, 0, none⟩)) := ⟨_, by rw [hA, hB]; exact hO.symm, by simp (maxSteps := 4000000) only [zd, zc, Nat.reduceEqDiff, z0]⟩
 obtain ⟨U, hU⟩ : ∃ U : DS, U = (T.new .dfr).new O := ⟨_, rfl⟩
 rw [← hU]
 have XU : Ext [] T U := by rw [hU]; exact Ext.new.trans' Ext.new
 have nU : U.next = s.next + 4 := by rw [hU]; simp (maxSteps := 4000000) (maxDischargeDepth := 8) only [Nat.reduceAdd, zU, Nat.add_assoc, nT]
 have U3 : U.get (s.next + 3) = some O := by rw [hU]; simp (maxSteps := 4000000) (maxDischargeDepth := 8) only [Nat.reduceAdd, zU, zo, zA, Nat.add_assoc, hGT, nT]
 have U2 : U.get (s.next + 2) = some .dfr := by rw [hU]; simp (maxSteps := 4000000) (maxDischargeDepth := 8) only [Nat.reduceAdd, zU, zo, zz, zA, Nat.add_assoc, Nat.lt_add_one, hGT, nT]
 have XsU : Ext [] s U := XT.trans' XU
 have hGU := XsU.good hG
 have wU : ∀ k, U.wr (s.next + k) = true := fun k => XsU.wrs (hG _ (Nat.le_add_right _ _)).2
 have U0 := XU.keep T0 (by simp)
 have U1 := XU.keep T1 (by simp)
 have cU := c.keep XsU (by simp)
 have hown : ∀ k, k ∈ own p kv vv → k ∉ [s.next, s.next + 3] := fun k hk => by have := hlt k hk; simp; omega
 refine W.mono (D7 hI (d := d + 10) (J := MJ U s.next (s.next + 3) room tt A B L) (Stop := fun _ => False) (p := p) (kv := kv) (vv := vv) (room := room)
  (fun i S h => by obtain ⟨kw, XS, _⟩ := h; exact ⟨cU.keep XS hown, XS.keep U1 (by simp)⟩) ?_ ⟨_, .refl, U0, by simpa [ZM] using SlC.nil, by simp [blk], U3.trans (by rw [hO2])⟩ (by omega)) ?_
 · rintro i x S hx ⟨bw, XS, gk, sk, bk, gy⟩
   have hi := (List.getElem?_eq_some_iff.1 hx).1
   have wS : ∀ k, S.wr (s.next + k) = true := fun k => XS.wrs (wU k)
   have wS0 := wS 0
   rw [Nat.add_zero] at wS0
   have hGS := XS.good hGU
   have hnS := XS.le
   have hlS := DS.get_lt' gk
   refine KU gy rfl ?_
   simp (maxSteps := 4000000) only [zr, zh, ze, zi, zm, zq, zg, zI, zl, zf, zd, zc, Nat.reduceEqDiff, z0, z1, pv, Wg, XG, Tw hA, Mx]
   refine JP gy (wS 3) ?_
   simp (maxSteps := 4000000) (maxDischargeDepth := 8) only [zh, zN, zq, zg, zp, YA, ZR, zk, zI, Yf, zQ, Zl, zt, zl, zf, zd, zc, z0, z1, zL, Cells.get, getN, Nat.zero_add, Nat.reduceAdd, zZ, zO, List.length_cons, List.length_nil, Bool.and_self, Bool.and_eq_true, Nat.beq_eq, Nat.ble_eq, Nat.reduceLeDiff, Nat.le_refl, and_self, if_true, z6, List.take_zero, List.take_succ_cons, List.drop_succ_cons, List.drop_zero, List.nil_append, List.cons_append, List.drop_nil, List.append_nil, pp, pv, DS.upd_get_ne, DS.upd_next, Wl, Yk, repeatZ, Nat.reduceMul, ZR, zX, Zu, Nat.reduceLT, Nat.lt_add_one, Nat.succ_pos, Tw hB, Nq, t3, gk, hGS, hlS]
   obtain ⟨S1, hS1⟩ : ∃ S1 : DS, S1 = ((S.upd (s.next + 3) (.loop .busy .normal tt [17, 18] A B)).new (.cells (.list [.int .i64 x.1, .int .i64 x.2]) false)) := ⟨_, rfl⟩
   have X1 : Ext [s.next + 3] S S1 := by rw [hS1]; exact (Ext.upd (.inl (by simp))).trans' Ext.new
   have n1 : S1.next = S.next + 1 := by rw [hS1]; simp (maxSteps := 4000000) (maxDischargeDepth := 8) only [DS.upd_next, zU]
   have g1 : S1.get S.next = some (.cells (.list [.int .i64 x.1, .int .i64 x.2]) false) := by rw [hS1]; simp (maxSteps := 4000000) (maxDischargeDepth := 8) only [DS.upd_next, zo, DS.upd_good, hGS]
   have y1 : S1.get (s.next + 3) = some (.loop .busy .normal tt [17, 18] A B) := by
    rw [hS1]
    simp (maxSteps := 4000000) (maxDischargeDepth := 8) only [DS.upd_get_self, DS.upd_next, Option.map_some, zz, gy, show s.next + 3 < S.next by omega]
   have hkn : ∀ k, k ∈ blk bw → k ∉ [s.next + 3] := fun k hk => by have := bk k hk; simp; omega
   have hw : SlV S1 2 (.slice (some ⟨S.next, 0, none⟩) 1 1) (ZM [x]) := .inr ⟨S.next, 0, none, 1, rfl, by unfold DS.read; rw [g1]; rfl⟩
   have hlt2 : ((ZM (L.take i)).length + (ZM [x]).length) ≤ 5001 := by simp [ZM]; omega
   rw [← hS1]
   refine W.mono (Qm (sk.keep X1 hkn) hw (Ye _) (Ye [x]) (X1.good hGS) (by omega) (by omega)) ?_
   rintro ⟨kw2, S2⟩ ⟨sk2, X2, b2, _⟩
   simp only at sk2 X2 b2
   have k1 := X1.keep gk (by simp)
   have hkn2 : s.next ∉ blk bw := fun h => by have := bk _ h; omega
   have hkn3 : s.next + 3 ∉ blk bw := fun h => by have := bk _ h; omega
   have k2 := X2.keep k1 hkn2
   have y2 := X2.keep y1 hkn3
   have w2 : ∀ k, S2.wr (s.next + k) = true := fun k => X2.wrs (X1.wrs (wS k))
   have w20 := X2.wrs (X1.wrs wS0)
   obtain ⟨a2, c2, hk2⟩ := sk2.shape
   subst hk2
   simp (maxSteps := 4000000) (maxDischargeDepth := 8) only [zK, zi, zm, zq, zg, zp, zY, zk, zQ, Zz, zt, zl, zf, zy, zd, zc, z0, z1, Nat.zero_add, Nat.reduceAdd, Zh, Zy, List.length_cons, List.length_nil, allOne, zJ, Bool.and_self, Bool.and_true, Nat.beq_eq, Nat.ble_eq, Nat.le_refl, if_true, DS.wrC, Cells.size, Cells.fillFrom, Cells.set, Zj, List.length_append, zX, Nat.reduceLT, Nat.lt_add_one, k2, w2, w20, t3]
   refine Qc (p := .normal) (t3 := tt) (ps3 := [17, 18]) (a3 := A) (b3 := B) ?_ ?_ ?_
   · simp (maxSteps := 4000000) (maxDischargeDepth := 8) only [z0, DS.upd_get_ne, ZW, Zu, Nat.succ_pos, y2]
   · simp (maxSteps := 4000000) (maxDischargeDepth := 8) only [DS.upd_wr, w2]
   have htake : ZM (L.take (i + 1)) = ZM (L.take i) ++ ZM [x] := by unfold ZM; rw [List.take_add_one, List.map_append]; simp [hx]
   have hb2 : ∀ k, k ∈ blk (.slice a2 (ZM (L.take i) ++ ZM [x]).length c2) → U.next ≤ k := fun k hk => by
    rcases b2 k hk with h | h
    · exact bk k h
    · omega
   refine .inl ⟨rfl, .slice a2 (ZM (L.take i) ++ ZM [x]).length c2, ?_, ?_, ?_, hb2, ?_⟩
   · exact (((XS.trans' (X1.weaken (by simp))).trans X2 fun k hk => .inr (bk k hk)).trans' (Ext.upd (.inl (by simp)))).trans' (Ext.upd (.inl (by simp)))
   · simp (maxSteps := 4000000) (maxDischargeDepth := 8) only [z0, if_true, DS.upd_get_self, DS.upd_get_ne, Option.map_some, List.length_append, zX, Zu, Nat.succ_pos, k2]
   · rw [htake]
     refine sk2.of fun k hk => ?_
     have := hb2 k hk
     simp (maxSteps := 4000000) (maxDischargeDepth := 8) only [z0, Bool.true_and, true_and, if_true, DS.upd_get_ne, DS.upd_wr, show ¬ k = s.next by omega, show ¬ k = s.next + 3 by omega]
     exact fun h => h
   · simp (maxSteps := 4000000) (maxDischargeDepth := 8) only [z0, if_true, DS.upd_get_self, DS.upd_get_ne, Option.map_some, ZW, Zu, Nat.succ_pos, y2]
     rfl
 rintro ⟨vv2, r⟩ (⟨bw, XR, gk, sk, bk, gy⟩ | h)
 · simp only at XR gk sk bk gy
   have wR : ∀ k, r.wr (s.next + k) = true := fun k => XR.wrs (wU k)
   refine Qd gy (.inl rfl) (wR 3) ?_
   have hlr := DS.get_lt' gk
   obtain ⟨ab, cb, hbw⟩ := sk.shape
   rw [List.take_length] at sk hbw
   rw [ZY] at hbw
   simp (maxSteps := 4000000) (maxDischargeDepth := 8) only [zr, zh, ze, zK, YO, Jv, ZV, zp, zk, zF, zl, zB, zf, zd, zc, z0, z1, z5, Cells.get, getN, List.nil_append, DS.upd_get_ne, DS.upd_next, YF, ldA, foot, DS.read, Cells.take, zX, Zu, Nat.reduceLT, Nat.succ_pos, gk, hlr]
   obtain ⟨V, hV⟩ : ∃ V : DS, V = r.upd (s.next + 3) (.loop .exhausted .normal tt [17, 18] A B) := ⟨_, rfl⟩
   rw [← hV]
   have XF : Ext [s.next, s.next + 3] U V := by rw [hV]; exact XR.trans' (Ext.upd (.inl (by simp)))
   have XsV : Ext [] s V := XsU.trans XF (by simp)
   have hGV := XsV.good hG
   have nV : V.next = r.next := by rw [hV]; simp (maxSteps := 4000000) (maxDischargeDepth := 8) only [DS.upd_next]
   have skV : SlC V 2 bw (ZM L) := by
    rw [hV]
    exact sk.keep (Ext.upd (F := [s.next + 3]) (.inl (by simp))) fun k hk => by have := bk k hk; simp; omega
   have V2 := XF.keep U2 (by simp)
   have wV := XF.wrs (wU 2)
   refine W.masked (hP.fr _) (PS hC hP (d := d + 8) (Wu hGV fun k hk => ?_)) ?_
   · rw [nV] at hk
     exact ⟨by (simp only [hidden, shielded, noteAt, Z2, Bool.or_false, Bool.or_eq_false_iff, Bool.and_eq_false_iff, Yb, Yr, Yv, true_and, and_true, true_or, or_true] <;> omega), by (simp only [hidden, shielded, noteAt, Z2, Bool.or_false, Bool.or_eq_false_iff, Bool.and_eq_false_iff, Yb, Yr, Yv, true_and, and_true, true_or, or_true] <;> omega)⟩
   rintro v1 s1 ⟨q1, X1⟩ df
   simp only at q1 X1
   have hsame : ∀ k, (unmask V s1).get k = s1.get k := fun k => WP (by (simp only [hidden, shielded, noteAt, Z2, Bool.or_false, Bool.or_eq_false_iff, Bool.and_eq_false_iff, Yb, Yr, Yv, true_and, and_true, true_or, or_true] <;> omega)) X1
   have X1' := Ext.unmask' X1 df
   have q1' := Yl.of_get (s' := unmask V s1) q1 hsame (Nat.le_refl _)
   have hGW := X1'.good hGV
   have skW := skV.keep X1' (by simp)
   have W2' := X1'.keep V2 (by simp)
   simp (maxSteps := 4000000) only [YO, Yu, zF, zl, zB, zf, zd, zc, Nat.reduceEqDiff, z0, z1, z4, z5, List.nil_append, List.cons_append, Mq, foot]
   subst hbw
   show W (dcall E (((d + 3) + 6 + 1) + 1) _ _ _) _
   have hrep : SH (unmask V s1).next (unmask V s1) (.agg ⟨[.int .i64 room, .slice ab L.length cb]⟩) (room, L) := by
    refine ⟨.int .i64 room, .slice ab L.length cb, rfl, rfl, ZM L, ZY L, Ye L, ?_, ?_⟩
    · rcases skW.view (Ye L) with h | ⟨b, off, sp, c', h1, h2⟩
      · exact .inl h
      · refine .inr ⟨b, off, sp, c', h1, ?_, h2⟩
        refine skW.lt b ?_
        rw [h1]; simp [blk]
    · intro i r x hr hx
      have hr : (ZM L)[i]? = some r := hr
      unfold ZM at hr
      rw [List.getElem?_map, hx] at hr
      cases hr
      exact ⟨.int .i64 x.1, .int .i64 x.2, rfl, rfl, rfl⟩
   have hlenE : (Ru (room, L)).length ≤ 1048576 := by
    have hcat : ∀ M : List Ent, (Qh Jw M).length = M.length * 16 := fun M => by
     induction M with
     | nil => rfl
     | cons a M ih => unfold Qh at ih ⊢; rw [List.flatMap_cons, List.length_append, ih]; simp [Jw, Z3]; omega
    show (leB room 2 ++ (leB (L.length : Int) 2 ++ Qh Jw L)).length ≤ 1048576
    rw [List.length_append, List.length_append, Z3, Z3, hcat]
    omega
   refine W.mono (DM (n := 6) (d := d + 3) hC hGW q1' hrep SG ⟨.inr ⟨hroom.1, hroom.2⟩, hl, fun y _ => ⟨.inl rfl, .inl rfl⟩⟩ hlenE rfl hP.f42 hP.i42 hP.f63 hP.i63) ?_
   rintro ⟨v3, s3⟩ ⟨w, hv3, hw1, hw2, hw3, X3⟩
   simp only at hv3 hw1 hw3 X3
   subst hv3
   have W3 := X3.keep W2' (by simp)
   have w3 := X3.wrs (X1'.wrs wV)
   simp (maxSteps := 4000000) only [zr, zh, zV, ze, zi, zm, zq, YO, zg, ZV, zp, zk, zI, Yg, zt, zl, zf, zd, zc, Nat.reduceEqDiff, z0, z1, getN, List.nil_append, List.cons_append, foot]
   rw [W2 W3 w3]
   have hX : Ext [] s (s3.rid (s.next + 2)) := (XsV.trans' (X1'.trans' X3)).trans (Ext.rid (F := [s.next + 2]) (.inl (by simp))) (by simp)
   have hle := X1'.le
   have hln : s.next + 4 ≤ V.next := by rw [nV, ← nU]; exact XR.le
   simp (maxSteps := 4000000) only [zk, zd, z1, zw, zG]
   refine hQ _ ⟨hw1.of fun k hk => ?_, hw2, fun k hk => ?_, hX⟩
   · have := (hw3 k hk).1
     exact DS.rid_get_ne (by omega)
   · have := hw3 k hk
     rw [DS.rid_next]
     omega
 · exact absurd h id
end
end Go.Dx.StA
