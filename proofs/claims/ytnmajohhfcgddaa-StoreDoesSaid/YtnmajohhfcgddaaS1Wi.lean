/- A part. -/
import Derived.Test.YtnmajohhfcgddaaS1Ga
import Derived.Test.YtnmajohhfcgddaaDxPl
import Derived.Test.YtnmajohhfcgddaaS1Fa
set_option linter.unusedVariables false
set_option linter.unusedSimpArgs false
set_option linter.unusedSectionVars false
set_option maxRecDepth 100000
set_option maxHeartbeats 4000000
namespace Go.Dx.StA
open Go Go.Dx Go.Dx.Search Go.Dx.St Go.Proofs.Ytnmajohhfcgddaa
structure R0 (E : Env) : Prop where
 fRange : E.fn 22 = some d22
 iRange : E.intr 22 = none
 fRange1 : E.fn 45 = some d45
 iRange1 : E.intr 45 = none
 fWi : E.fn 30 = some d30
 iWi : E.intr 30 = none
 fr : ∀ d, Z4 (dcall E d)
def DW : DCode := (.seq (.region [pv 5 14]) (.region [pv 6 15]))
def Kb : DCode := (.block 1 (.seq (.region [pv 16 5, pp 17 (.ld none (tm 3)), pp 18 (.bin .geq (tm 16) (tm 17)), pv 19 18, pg 20 (.ld none (tm 4)) 19 false, pw 21 5 19 false, pw 22 6 19 false, pg 23 (.call (tm 20) [.tmp 21, .tmp 22]) 19 false, pg 24 (.un .not (tm 23)) 19 false, pp 25 (.pick (tm 19) (.const (.bool true)) (tm 24))]) (.cond (tm 25) (.ret) (.skip))))
structure RgJ (J : Nat → DS → Prop) (N y1 p : Nat) (k to : Int) (tt : PT Value) (L : List Ent) (i : Nat) (S : DS) : Prop where
 hj : J i S
 ge : pos k L ≤ i
 le : i ≤ L.length
 g0 : S.get N = some (.cells (.list [.func (.yield y1) #[] #[]]) false)
 g1 : S.get (N + 1) = some (.cells (.list [.pointer (some ⟨p, 0, none⟩)]) false)
 gl : S.get (N + 4) = some (Wn tt [14, 15] DW Kb)
 gd : S.get (N + 3) = some .dfr
 wr : ∀ j, N ≤ j → S.wr j = true
 lt : ∀ j x, pos k L ≤ j → j < i → L[j]? = some x → x.1 < to
 nx : N + 5 ≤ S.next
section
variable {E : Env} (hE : Fns E) (hI : Its E) (hG' : R0 E) {s : DS} {p : Nat} {kv vv : Value} {L : List Ent} {room : Int} {d : Nat} {J : Nat → DS → Prop} {Stop : DS → Prop} {c c2 c3 y1 : Nat} {k to : Int} {F : List Nat}
include hE hI hG'
theorem Cp (hJ : ∀ i S, J i S → Xg S p kv vv L room ∧ S.get c = some (.cells (.list [.pointer (some ⟨p, 0, none⟩)]) false) ∧ S.get c2 = some (.cells (.list [.int .i64 k]) false) ∧ S.get c3 = some (.cells (.list [.int .i64 to]) false) ∧ S.Good)
 (hlow : c < s.next ∧ c2 < s.next ∧ c3 < s.next)
 (hJk : ∀ i S S' G, J i S → Ext G S S' → (∀ x, x ∈ G → s.next ≤ x) → J i S')
 (hSk : ∀ S S' G, Stop S → Ext G S S' → (∀ x, x ∈ G → s.next ≤ x) → Stop S')
 (hF : ∀ x, x ∈ F → x < s.next)
 (hstep : ∀ (i : Nat) (x : Ent) (S : DS), L[i]? = some x → pos k L ≤ i → x.1 < to → J i S → W (dcall E (d + 3) (.func (.yield y1) #[] #[]) [.int .i64 x.1, .int .i64 x.2] S) fun r => ((r.1 = .bool true ∧ J (i + 1) r.2) ∨ (r.1 = .bool false ∧ Stop r.2)) ∧ Ext F S r.2)
 (h0 : J (pos k L) s) (hlf : L.length < E.lf) :
 W (dcall E (d + 6) (.func (.func 45) #[] #[.pointer (some ⟨c, 0, none⟩), .pointer (some ⟨c2, 0, none⟩), .pointer (some ⟨c3, 0, none⟩)]) [.func (.yield y1) #[] #[]] s) fun r => (∃ i, J i r.2 ∧ pos k L ≤ i ∧ i ≤ L.length ∧ (∀ j x, pos k L ≤ j → j < i → L[j]? = some x → x.1 < to) ∧ ∀ x, L[i]? = some x → ¬ x.1 < to) ∨ Stop r.2 := by
 obtain ⟨c0, gc, gc2, gc3, hG⟩ := hJ _ s h0
 have hple := Qg k L
 refine Zw fun Q hQ => ?_
 rw [Wm hG'.iRange1 hG'.fRange1 rfl]
 have hn1 : ∀ ob, (s.new ob).get c = some (.cells (.list [.pointer (some ⟨p, 0, none⟩)]) false) := fun ob => (DS.new_get_lt hlow.1).trans gc
 have hn2 : ∀ ob, (s.new ob).get c2 = some (.cells (.list [.int .i64 k]) false) := fun ob => (DS.new_get_lt hlow.2.1).trans gc2
 simp (maxSteps := 4000000) only [zr, zh, zx, zN, zM, ze, zi, zm, zq, zu, zg, zp, ZD, zk, Z5, zS, zQ, Zl, Xe, zF, zt, Zv, zl, zj, zB, zf, zd, zc, Nat.reduceEqDiff, z0, zn, List.getElem?_cons_zero, List.getElem?_cons_succ, z1, z4, z5, zL, Cells.get, getN, cells_func, if_false, Bool.not_false, z3, List.nil_append, List.cons_append, pp, pv, pw, pg, zU, Nat.add_zero, d45, hn1, hn2, Ti hI]
 refine Cc (by simp (maxSteps := 4000000) only [zl, zd, z1]; rfl) ?_
 generalize hO : Wn _ _ _ _ = O
 obtain ⟨tt, hO2, t3, t4⟩ : ∃ tt, O = Wn tt [14, 15] DW Kb ∧ tt.get 3 = some (.pointer (some ⟨c3, 0, none⟩)) ∧ tt.get 4 = some (.pointer (some ⟨s.next, 0, none⟩)) := ⟨_, hO.symm, by simp (maxSteps := 4000000) only [zc, Nat.reduceEqDiff, z0, zn, List.getElem?_cons_zero, List.getElem?_cons_succ], by simp (maxSteps := 4000000) only [zd, zc, Nat.reduceEqDiff, z0]⟩
 obtain ⟨T, hT⟩ : ∃ T : DS, T = ((s.new (.cells (.list [.func (.yield y1) #[] #[]]) false)).new (.cells (.list [.pointer (some ⟨p, 0, none⟩)]) false)).new (.cells (.list [.int .i64 k]) false) := ⟨_, rfl⟩
 rw [← hT]
 have XT : Ext [] s T := by rw [hT]; exact Ext.new.trans' (Ext.new.trans' Ext.new)
 have nT : T.next = s.next + 3 := by rw [hT]; simp (maxSteps := 4000000) (maxDischargeDepth := 8) only [Nat.reduceAdd, zU, Nat.add_assoc]
 have hGT := XT.good hG
 have T0 : T.get s.next = some (.cells (.list [.func (.yield y1) #[] #[]]) false) := by rw [hT]; simp (maxSteps := 4000000) (maxDischargeDepth := 8) only [Nat.reduceAdd, zU, zo, zz, zA, Zu, Nat.add_assoc, Nat.lt_add_one, Nat.succ_pos, hG]
 have T1 : T.get (s.next + 1) = some (.cells (.list [.pointer (some ⟨p, 0, none⟩)]) false) := by rw [hT]; simp (maxSteps := 4000000) (maxDischargeDepth := 8) only [Nat.reduceAdd, zU, zo, zz, zA, Nat.add_assoc, Nat.lt_add_one, hG]
 have T2 : T.get (s.next + 2) = some (.cells (.list [.int .i64 k]) false) := by rw [hT]; simp (maxSteps := 4000000) (maxDischargeDepth := 8) only [Nat.reduceAdd, zU, zo, zA, Nat.add_assoc, hG]
 clear hT
 obtain ⟨U, hU⟩ : ∃ U : DS, U = (T.new .dfr).new O := ⟨_, rfl⟩
 rw [← hU]
 have XU : Ext [] T U := by rw [hU]; exact Ext.new.trans' Ext.new
 have U4 : U.get (s.next + 4) = some O := by rw [hU]; simp (maxSteps := 4000000) (maxDischargeDepth := 8) only [Nat.reduceAdd, zU, zo, zA, Nat.add_assoc, hGT, nT]
 have U3 : U.get (s.next + 3) = some .dfr := by rw [hU]; simp (maxSteps := 4000000) (maxDischargeDepth := 8) only [Nat.reduceAdd, zU, zo, zz, zA, Nat.add_assoc, Nat.lt_add_one, hGT, nT]
 have nU : U.next = s.next + 5 := by rw [hU]; simp (maxSteps := 4000000) (maxDischargeDepth := 8) only [Nat.reduceAdd, zU, Nat.add_assoc, nT]
 have XsU : Ext [] s U := XT.trans' XU
 have hGU := XsU.good hG
 clear hU
 have wU : ∀ j, s.next ≤ j → U.wr j = true := fun j hj => XsU.wrs (hG j hj).2
 obtain ⟨N, hN⟩ : ∃ N, N = s.next := ⟨_, rfl⟩
 rw [nT]
 simp only [← hN] at T0 T1 T2 U4 U3 nU wU t4 hlow hJk hSk hF ⊢
 refine W.mono (Ff (J := fun i S => RgJ J N y1 p k to tt L i S) (Stop := fun S => ∃ tl, ((∃ i, J i S ∧ pos k L ≤ i ∧ i ≤ L.length ∧ (∀ j x, pos k L ≤ j → j < i → L[j]? = some x → x.1 < to) ∧ ∀ x, L[i]? = some x → ¬ x.1 < to) ∨ Stop S) ∧ S.get (N + 4) = some (.loop .done .ret tl [14, 15] DW Kb) ∧ S.get (N + 3) = some .dfr ∧ (∀ j, N ≤ j → S.wr j = true) ∧ N + 5 ≤ S.next)
  (d := d) hE hI (c := N + 1) (c2 := N + 2) (k := k) (fun i S h => ⟨(hJ i S h.hj).1, h.g1⟩) (XU.keep T2 (by simp)) ?_ ⟨hJk _ _ _ _ h0 XsU (by simp), Nat.le_refl _, hple, XU.keep T0 (by simp), XU.keep T1 (by simp), by rw [U4, hO2], U3, wU, fun j x h1 h2 => by omega, by omega⟩ hlf) ?_
 · rintro i x S hx hj
   obtain ⟨hjj, hge, hle, g0, g1, gl, gd, hw, hlt, hnx⟩ := hj
   obtain ⟨cS, gcS, gc2S, gc3S, hGS⟩ := hJ i S hjj
   have hil := (List.getElem?_eq_some_iff.1 hx).1
   refine KU gl rfl ?_
   simp (maxSteps := 4000000) only [zr, zh, ze, zi, zm, zq, zg, zI, zl, zf, zd, zc, Nat.reduceEqDiff, z0, z1, pv, Wg, XG, DW]
   refine JP gl (hw _ (by omega)) ?_
   obtain ⟨Sb, hSb⟩ : ∃ Sb : DS, Sb = S.upd (N + 4) (.loop .busy .normal tt [14, 15] DW Kb) := ⟨_, rfl⟩
   have Xb : Ext [N + 4] S Sb := by rw [hSb]; exact Ext.upd (.inl (by simp))
   have gby : Sb.get (N + 4) = some (.loop .busy .normal tt [14, 15] DW Kb) := by rw [hSb, DS.upd_get_self, gl]; rfl
   have nb : Sb.next = S.next := by rw [hSb, DS.upd_next]
   show WC _ _ _ Kb ⟨_, S.upd (N + 4) (.loop .busy .normal tt [14, 15] DW Kb), []⟩ _
   rw [← hSb]
   clear hSb
   have b0 := Xb.keep g0 (by simp)
   have bd := Xb.keep gd (by simp)
   have bc3 := Xb.keep gc3S (by simp; omega)
   have hjb := hJk _ _ _ _ hjj Xb (by simp)
   have wb : ∀ j, N ≤ j → Sb.wr j = true := fun j hj => Xb.wrs (hw j hj)
   by_cases c1 : x.1 < to
   · have e1 : ¬ to ≤ x.1 := by omega
     simp (maxSteps := 4000000) only [zr, zh, zN, zq, ZH, Zm, zg, zp, zk, zI, zP, Zl, zF, z7, Zb, zl, zf, zd, zc, Nat.reduceEqDiff, z0, z1, z4, z5, zL, Cells.get, getN, if_true, pp, pv, pw, pg, decide_false, Kb, t3, t4, bc3, e1, b0]
     refine W.mono (hstep i x Sb hx hge c1 hjb) ?_
     rintro ⟨v2, s2⟩ ⟨hres, X2⟩
     simp only at hres X2
     have hno : ∀ j, N ≤ j → j ∉ F := fun j hj hf => by have := hF j hf; omega
     have g2l := X2.keep gby (hno _ (by omega))
     have w2 : ∀ j, N ≤ j → s2.wr j = true := fun j hj => X2.wrs (wb j hj)
     have n2 := X2.le
     rcases hres with ⟨rfl, hj2⟩ | ⟨rfl, hst⟩
     · simp (maxSteps := 4000000) only [zx, zM, ze, zK, zi, zm, zq, ZH, Zm, zu, zg, zp, zk, Zd, Qn, zt, zl, zj, zf, zd, zc, Nat.reduceEqDiff, z0, z1, if_false, Bool.not_true, z3]
       refine Qc g2l (w2 _ (by omega)) (.inl ⟨rfl, ?_⟩)
       have X3 : Ext [N + 4] s2 (s2.upd (N + 4) (.loop .ready .normal tt [14, 15] DW Kb)) := Ext.upd (.inl (by simp))
       refine ⟨hJk _ _ _ _ hj2 X3 (by simp), by omega, by omega, X3.keep (X2.keep b0 (hno _ (by omega))) (by simp), X3.keep (X2.keep (Xb.keep g1 (by simp)) (hno _ (by omega))) (by simp), ?_, X3.keep (X2.keep bd (hno _ (by omega))) (by simp), fun j hj => X3.wrs (w2 j hj), ?_, ?_⟩
       · show (DS.upd _ (N + 4) _).get (N + 4) = _
         rw [DS.upd_get_self, g2l]; rfl
       · intro j y h1 h2 hy
         by_cases e : j = i
         · subst e; rw [hx] at hy; cases hy; exact c1
         · exact hlt j y h1 (by omega) hy
       · show N + 5 ≤ (DS.upd s2 (N + 4) _).next
         rw [DS.upd_next]; omega
     · simp (maxSteps := 4000000) only [zx, zV, ze, YI, zi, zm, zq, ZH, Zm, zC, zg, zp, zk, Zd, Qn, zt, zl, zj, zf, zd, zc, Nat.reduceEqDiff, z0, z1, if_false, Bool.not_false, z3]
       refine Qc g2l (w2 _ (by omega)) (.inr ⟨rfl, tt, .inr ?_, ?_, ?_, ?_, ?_⟩)
       · exact hSk _ _ [N + 4] hst (Ext.upd (.inl (by simp))) (by simp)
       · show (DS.upd _ (N + 4) _).get (N + 4) = _
         rw [DS.upd_get_self, g2l]; rfl
       · exact (Ext.upd (F := [N + 4]) (.inl (by simp))).keep (X2.keep bd (hno _ (by omega))) (by simp)
       · exact fun j hj => by rw [DS.upd_wr]; exact w2 j hj
       · show N + 5 ≤ (DS.upd s2 (N + 4) _).next
         rw [DS.upd_next]; omega
   · have e1 : to ≤ x.1 := by omega
     simp (maxSteps := 4000000) only [zr, zh, zx, zN, zV, ze, YI, zi, zm, zq, ZH, XL, zC, zg, zp, zk, zI, Zd, zP, Zl, zt, z7, Zb, zl, zj, zf, zd, zc, Nat.reduceEqDiff, z0, z1, zL, Cells.get, getN, if_true, if_false, z3, List.nil_append, pp, pv, pw, pg, decide_true, Kb, t3, t4, bc3, e1, b0]
     refine Qc gby (wb _ (by omega)) (.inr ⟨rfl, tt, .inl ⟨i, hJk _ _ _ [N + 4] hjb (Ext.upd (.inl (by simp))) (by simp), hge, by omega, hlt, fun y hy => by rw [hx] at hy; cases hy; exact c1⟩, ?_, ?_, ?_, ?_⟩)
     · show (DS.upd _ (N + 4) _).get (N + 4) = _
       rw [DS.upd_get_self, gby]; rfl
     · exact (Ext.upd (F := [N + 4]) (.inl (by simp))).keep bd (by simp)
     · exact fun j hj => by rw [DS.upd_wr]; exact wb j hj
     · show N + 5 ≤ (DS.upd Sb (N + 4) _).next
       rw [DS.upd_next]; omega
 rintro ⟨v2, s2⟩ (h | ⟨tl, hres, g4, g3, w2, n2⟩)
 · obtain ⟨hjj, hge, hle, g0, g1, gl, gd, hw, hlt, hnx⟩ := h
   refine Qd (gl.trans rfl) (.inl rfl) (hw _ (by omega)) ?_
   simp (maxSteps := 4000000) only [zK]
   have Y1 : ∀ ob, Ext [N + 3 + 1, N + 3] s2 (s2.upd (N + 3 + 1) ob) := fun ob => Ext.upd (.inl (by simp))
   have Y2 : ∀ S : DS, Ext [N + 3 + 1, N + 3] S (S.rid (N + 3)) := fun S => Ext.rid (.inl (by simp))
   rw [F6 (by rw [DS.upd_get_ne (by omega)]; exact gd) (by rw [DS.upd_wr]; exact hw _ (by omega))]
   simp (maxSteps := 4000000) only [zk, zw, zG]
   exact hQ _ (.inl ⟨L.length, hJk _ _ _ _ hjj ((Y1 _).trans' (Y2 _)) (by simp; omega), hple, Nat.le_refl _, hlt, fun x hx => by rw [List.getElem?_eq_none (Nat.le_refl _)] at hx; cases hx⟩)
 · simp only at hres g4 g3 w2 n2
   refine Qd g4 (.inr rfl) (w2 _ (by omega)) ?_
   simp (maxSteps := 4000000) only [YI]
   have Y1 : ∀ ob, Ext [N + 3 + 1, N + 3] s2 (s2.upd (N + 3 + 1) ob) := fun ob => Ext.upd (.inl (by simp))
   have Y2 : ∀ S : DS, Ext [N + 3 + 1, N + 3] S (S.rid (N + 3)) := fun S => Ext.rid (.inl (by simp))
   rw [W2 (by rw [DS.upd_get_ne (by omega)]; exact g3) (by rw [DS.upd_wr]; exact w2 _ (by omega))]
   simp (maxSteps := 4000000) only [zk, zw, zG]
   refine hQ _ ?_
   rcases hres with ⟨i, hj, h1, h2, h3, h4⟩ | hst
   · exact .inl ⟨i, hJk _ _ _ _ hj ((Y1 _).trans' (Y2 _)) (by simp; omega), h1, h2, h3, h4⟩
   · exact .inr (hSk _ _ _ hst ((Y1 _).trans' (Y2 _)) (by simp; omega))
def CM : DCode := (.seq (.region [pv 15 65]) (.region [pv 16 66]))
def KQ : DCode := (.block 3 (.seq (.seq (.region [pp 67 (.ld none (tm 14)), pp 68 (.ld none (tm 12)), pp 69 (.blenL (tm 68)), pp 70 (.bin .geq (tm 67) (tm 69)), pv 71 70, pg 72 (.ld none (tm 12)) 71 false, pg 73 (.ld none (tm 14)) 71 false, pg 74 (.ixL 2 (tm 72) (tm 73)) 71 false, pg 75 (.fadr 0 (tm 74)) 71 false, pg 76 (.ld none (tm 75)) 71 false, pw 77 15 71 false, pg 78 (.bin .neq (tm 76) (tm 77)) 71 false, pp 79 (.pick (tm 71) (.const (.bool true)) (tm 78)), pv 80 79, pg 81 (.ld none (tm 12)) 80 false, pg 82 (.ld none (tm 14)) 80 false, pg 83 (.ixL 2 (tm 81) (tm 82)) 80 false, pg 84 (.fadr 1 (tm 83)) 80 false, pg 85 (.ld none (tm 84)) 80 false, pw 86 16 80 false, pg 87 (.bin .neq (tm 85) (tm 86)) 80 false, pp 88 (.pick (tm 80) (.const (.bool true)) (tm 87))]) (.cond (tm 88) (.seq (.region [⟨none, .st 1 (tm 10) (.const (.bool false)), none, [], false⟩]) (.ret)) (.skip))) (.seq (.region [pp 89 (.ld none (tm 14)), pp 90 (.bin .add (tm 89) (.const (.int .i64 1))), ⟨none, .st 1 (tm 14) (tm 90), none, [], false⟩]) (.seq (.region [pp 91 (.ld none (tm 14)), pp 92 (.ld none (tm 9)), pp 93 (.bin .eql (tm 91) (tm 92))]) (.cond (tm 93) (.seq (.region [⟨none, .st 1 (tm 10) (.const (.bool true)), none, [], false⟩]) (.ret)) (.skip))))))
omit hE hI in
theorem Dq (dd : Nat) (s0 : DS) (a : Option Addr) (x y : Int) : dcall E (dd + 1) (.func (.func 22) #[] #[]) [.pointer a, .int .i64 x, .int .i64 y] s0 = some (.func (.func 45) #[] #[.pointer (some ⟨s0.next, 0, none⟩), .pointer (some ⟨s0.next + 1, 0, none⟩), .pointer (some ⟨s0.next + 2, 0, none⟩)], ((s0.new (.cells (.list [.pointer a]) false)).new (.cells (.list [.int .i64 x]) false)).new (.cells (.list [.int .i64 y]) false)) := by
 rw [← Jg, zT hG'.iRange hG'.fRange rfl]
 simp (maxSteps := 4000000) only [zr, zh, zV, ze, zi, zm, zq, zg, zk, zI, Kg, Xe, zH, zl, zj, zf, zd, zc, Nat.reduceEqDiff, z0, zn, List.getElem?_cons_zero, List.getElem?_cons_succ, z1, zw, zG, z4, z5, zZ, J1, pp, pv, zU, d22]
structure WaI (S0 : DS) (N q : Nat) (f t most : Int) (L : List Ent) (n : Nat) (x : St) : Prop where
 ex : ∃ (i : Nat) (w : Value), n = L.length - i ∧ i ≤ L.length ∧ x.defers = [] ∧ (x.t.get 1 = some (.pointer (some ⟨q, 0, none⟩)) ∧ x.t.get 2 = some (.int .i64 f) ∧ x.t.get 3 = some (.int .i64 t) ∧ x.t.get 9 = some (.pointer (some ⟨N, 0, none⟩)) ∧ x.t.get 10 = some (.pointer (some ⟨N + 1, 0, none⟩)) ∧ x.t.get 11 = some (.func (.func 45) #[] #[.pointer (some ⟨N + 2, 0, none⟩), .pointer (some ⟨N + 3, 0, none⟩), .pointer (some ⟨N + 4, 0, none⟩)]) ∧ x.t.get 12 = some (.pointer (some ⟨N + 5, 0, none⟩)) ∧ x.t.get 13 = some (.int .i64 (i : Int))) ∧
  x.s.get (N + 5) = some (.cells (.list [w]) false) ∧ SlX x.s 2 w (ZM (WN f t (L.take i))) ∧ (∀ k, k ∈ blk w → N + 6 ≤ k) ∧ Ext [N + 5] S0 x.s
structure WiJ (U : DS) (A y1 : Nat) (tt : PT Value) (p0 : Nat) (i : Nat) (S : DS) : Prop where
 gn : S.get A = some (.cells (.list [.int .i64 ((i - p0 : Nat) : Int)]) false)
 gy : S.get y1 = some (Wn tt [65, 66] CM KQ)
 xt : Ext [A, y1] U S
structure WiS (U : DS) (A y1 R : Nat) (S : DS) : Prop where
 gr : S.get R = some (.cells (.list [.bool true]) false)
 gy : ∃ tl, S.get y1 = some (.loop .done .ret tl [65, 66] CM KQ)
 xt : Ext [A, y1, R] U S
theorem GV {q : Nat} {w : Value} {f t most : Int} (c : Xg s p kv vv L room) (cr : Jh s q w L room) (hG : s.Good) (hlL : L.length ≤ 5000) :
 W (dcall E (d + 7) (.func (.func 30) #[] #[]) [.pointer (some ⟨p, 0, none⟩), .pointer (some ⟨q, 0, none⟩), .int .i64 f, .int .i64 t, .int .i64 most] s) fun r => r.1 = .bool true ∧ Ext [] s r.2 := by
 have hlf := hE.lf
 have hcl := c.lt
 have hel := ZY L
 have gq := cr.gq
 have hql := DS.get_lt' gq
 have hwl := cr.sl.lt
 obtain ⟨wa, hws⟩ := cr.sl.shape
 rw [hel] at hws
 refine Zw fun Q hQ => ?_
 rw [zT hG'.iWi hG'.fWi rfl]
 simp (maxSteps := 4000000) (maxDischargeDepth := 8) only [zr, zh, zx, zN, zM, ze, zi, zm, zq, zu, zg, ZD, zk, zI, Z5, Zi, Xe, zF, Zv, zl, zj, zB, zf, zd, zc, z0, zn, List.getElem?_cons_zero, List.getElem?_cons_succ, z1, z4, z5, Nat.reduceAdd, zZ, if_false, Bool.not_false, z3, pp, pv, pw, pg, zU, zX, Nat.add_assoc, Nat.reduceLT, Nat.lt_add_one, Nat.succ_pos, d30, Dq hG', hG]
 obtain ⟨S0, hS0⟩ : ∃ S0 : DS, S0 = (((((s.new (.cells (.list [.int .i64 most]) false)).new (.cells (.list [.bool false]) false)).new (.cells (.list [.pointer (some ⟨p, 0, none⟩)]) false)).new (.cells (.list [.int .i64 f]) false)).new (.cells (.list [.int .i64 t]) false)).new (.cells (.list [.slice none 0 0]) false) := ⟨_, rfl⟩
 rw [← hS0]
 have X0 : Ext [] s S0 := by rw [hS0]; exact Ext.new.trans' (Ext.new.trans' (Ext.new.trans' (Ext.new.trans' (Ext.new.trans' Ext.new))))
 have hG0 := X0.good hG
 have n0 : S0.next = s.next + 6 := by rw [hS0]; simp (maxSteps := 4000000) (maxDischargeDepth := 8) only [Nat.reduceAdd, zU, Nat.add_assoc]
 have a0 : S0.get s.next = some (.cells (.list [.int .i64 most]) false) := by rw [hS0]; simp (maxSteps := 4000000) (maxDischargeDepth := 8) only [Nat.reduceAdd, zU, zo, zz, zA, Zu, Nat.add_assoc, Nat.lt_add_one, Nat.succ_pos, hG]
 have a1 : S0.get (s.next + 1) = some (.cells (.list [.bool false]) false) := by rw [hS0]; simp (maxSteps := 4000000) (maxDischargeDepth := 8) only [Nat.reduceAdd, zU, zo, zz, zA, Nat.add_assoc, Nat.reduceLT, Nat.lt_add_one, Nat.add_lt_add_iff_left, hG]
 have a2 : S0.get (s.next + 2) = some (.cells (.list [.pointer (some ⟨p, 0, none⟩)]) false) := by rw [hS0]; simp (maxSteps := 4000000) (maxDischargeDepth := 8) only [Nat.reduceAdd, zU, zo, zz, zA, Nat.add_assoc, Nat.reduceLT, Nat.lt_add_one, Nat.add_lt_add_iff_left, hG]
 have a3 : S0.get (s.next + 3) = some (.cells (.list [.int .i64 f]) false) := by rw [hS0]; simp (maxSteps := 4000000) (maxDischargeDepth := 8) only [Nat.reduceAdd, zU, zo, zz, zA, Nat.add_assoc, Nat.reduceLT, Nat.lt_add_one, Nat.add_lt_add_iff_left, hG]
 have a4 : S0.get (s.next + 4) = some (.cells (.list [.int .i64 t]) false) := by rw [hS0]; simp (maxSteps := 4000000) (maxDischargeDepth := 8) only [Nat.reduceAdd, zU, zo, zz, zA, Nat.add_assoc, Nat.lt_add_one, hG]
 have a5 : S0.get (s.next + 5) = some (.cells (.list [.slice none 0 0]) false) := by rw [hS0]; simp (maxSteps := 4000000) (maxDischargeDepth := 8) only [Nat.reduceAdd, zU, zo, zA, Nat.add_assoc, hG]
 clear hS0
 have w0 : ∀ k, s.next ≤ k → S0.wr k = true := fun k hk => X0.wrs (hG k hk).2
 obtain ⟨N, hN⟩ : ∃ N, N = s.next := ⟨_, rfl⟩
 simp only [← hN] at a0 a1 a2 a3 a4 a5 n0 w0 hcl hql hwl ⊢
 refine ZP (WaI S0 N q f t most L) L.length (by omega) ⟨0, .slice none 0 0, rfl, Nat.zero_le _, rfl, by simp (maxSteps := 4000000) only [zd, zc, Nat.reduceEqDiff, z0, zn, List.getElem?_cons_zero, List.getElem?_cons_succ, Bool.true_and, true_and]; rfl, a5, .inl ⟨rfl, rfl⟩, by simp [blk], .refl⟩ ?_
 rintro n ⟨tt0, s2, ds⟩ hn ⟨i, wv, rfl, hi, hds, ⟨g1, g2, g3, g9, g10, g11, g12, g13⟩, g5, hw, hwb, X2⟩
 simp only at hds g1 g2 g3 g9 g10 g11 g12 g13 g5 hw X2
 subst hds
 have hG2 := X2.good hG0
 have XA : Ext [] s s2 := X0.trans X2 (by simp; omega)
 have cr2 := cr.keep XA (by simp) (by simp)
 have gq2 := cr2.gq
 rw [hws] at gq2
 have w2 : ∀ k, N ≤ k → s2.wr k = true := fun k hk => X2.wrs (w0 k hk)
 have hw5 := w2 (N + 5) (by omega)
 have hwl2 := CW f t (L.take i)
 rw [List.length_take] at hwl2
 have hn2 := X2.le
 by_cases c1 : i < L.length
 · have e1 : (i : Int) < (L.length : Int) := by omega
   have v1 : zE .i64 ((i : Int) + 1) = ((i + 1 : Nat) : Int) := by rw [zR (by omega) (by omega)]; omega
   have hx : L[i]? = some L[i] := List.getElem?_eq_getElem c1
   generalize L[i] = x at hx
   obtain ⟨b, sp, hvv, hsp, hb, hwb2⟩ := cr2.sl.at (fun e => by rw [e] at hel; simp at hel; omega)
   rw [hel, hws] at hvv
   injection hvv with hv1 _ _
   subst hv1
   have hg0 := WV hx
   have hg1 := Qt hx
   have hwt := TD (f := f) (t := t) hx
   by_cases q1 : f ≤ x.1
   · by_cases q2 : x.1 < t
     · rw [if_pos ⟨q1, q2⟩] at hwt
       have hrd : s2.read b (i * 2) 2 = some [.int .i64 x.1, .int .i64 x.2] := by
        have h := VZ (sz := 2) (b := b) (off := 0) (s := s2) (l := ZM L) (by unfold DS.read; rw [hb]; simp only; rw [ZJ _ _ _ (by rw [(Ye L).flat]; omega)]; simp only [List.drop_zero]; rw [List.take_of_length_le (by rw [(Ye L).flat]; exact Nat.le_refl _)]) (Ye L).len (FU hx)
        rwa [Nat.zero_add] at h
       have hld : ldA 2 (.pointer (some ⟨b, i * 2, none⟩)) s2 = some (.agg ⟨[.int .i64 x.1, .int .i64 x.2]⟩) := by
        unfold ldA
        simp only [hrd]
       simp (maxSteps := 4000000) (maxDischargeDepth := 8) only [zr, zh, zx, zN, zM, ze, zi, zm, zq, ZH, ZB, zC, zg, zp, ZR, zk, zI, Zd, zP, zS, zQ, Yy, Zk, Zl, zt, z7, Zb, zl, zj, zf, zd, zc, z0, z1, zL, Cells.get, getN, Nat.zero_add, Nat.reduceAdd, zO, List.length_cons, List.length_nil, Bool.and_self, Bool.and_eq_true, Nat.beq_eq, Nat.ble_eq, Nat.blt_eq, Nat.reduceLeDiff, Nat.le_refl, and_self, if_true, z6, List.take_zero, List.drop_succ_cons, List.nil_append, List.drop_nil, List.append_nil, Wl, Yk, repeatZ, Nat.reduceMul, ZR, YF, Nat.add_zero, zD, decide_true, zX, Nat.reduceLT, Nat.lt_add_one, g1, g2, g3, g9, g10, g11, g12, g13, e1, gq2, c1, hb, hg0, q1, q2, hld, g5, hG2]
       obtain ⟨S3, hS3⟩ : ∃ S3 : DS, S3 = s2.new (.cells (.list [.int .i64 x.1, .int .i64 x.2]) false) := ⟨_, rfl⟩
       rw [← hS3]
       have X3 : Ext [] s2 S3 := by rw [hS3]; exact Ext.new
       have g3' : S3.get s2.next = some (.cells (.list [.int .i64 x.1, .int .i64 x.2]) false) := by rw [hS3]; exact DS.new_get_self hG2
       clear hS3
       have hv : SlV S3 2 (.slice (some ⟨s2.next, 0, none⟩) 1 1) (ZM [x]) := .inr ⟨s2.next, 0, none, 1, rfl, by unfold DS.read; rw [g3']; rfl⟩
       refine W.mono (WJ (hw.keep X3 (by simp)) hv (Ye _) (Ye [x]) (X3.good hG2) (by rw [ZY, ZY]; simp; omega) (by rw [ZY, ZY]; simp; omega)) ?_
       rintro ⟨w4, s4⟩ ⟨x4, X4, b4⟩
       simp only at x4 X4 b4
       have hcat : ZM (WN f t (L.take i)) ++ ZM [x] = ZM (WN f t (L.take (i + 1))) := by rw [hwt]; unfold ZM; rw [List.map_append]
       rw [hcat] at x4
       have hb4 : ∀ k, k ∈ blk w4 → N + 6 ≤ k := fun k hk => by
        rcases b4 k hk with h | h
        · exact hwb k h
        · have := X3.le; omega
       have g54 := X4.keep (X3.keep g5 (by simp)) (fun h => by have := hwb _ h; omega)
       have w54 := X4.wrs (X3.wrs hw5)
       obtain ⟨a4', hw4⟩ := x4.shape
       subst hw4
       have X24 : Ext ((N + 5) :: blk wv) s2 s4 := (X3.weaken (by simp)).trans' (X4.weaken (by intro k hk; exact .inl (List.mem_cons_of_mem _ hk)))
       have XU : ∀ ob, Ext [N + 5] s4 (s4.upd (N + 5) ob) := fun ob => Ext.upd (.inl (by simp))
       simp (maxSteps := 4000000) only [zh, ze, zK, zi, zW, zm, zq, zg, zp, zY, zk, zI, zP, Zz, z7, Zb, zl, zj, zf, zy, zd, zc, Nat.reduceEqDiff, z0, z1, Nat.zero_add, Zh, Zy, List.length_cons, List.length_nil, allOne, zJ, Bool.and_self, Bool.and_true, Nat.beq_eq, Nat.ble_eq, Nat.le_refl, if_true, DS.wrC, Cells.size, Cells.fillFrom, Cells.set, Zj, g1, g2, g3, g9, g10, g11, g12, g13, g54, w54, v1]
       refine ⟨L.length - (i + 1), by omega, ⟨i + 1, _, rfl, by omega, rfl, by simp (maxSteps := 4000000) only [zd, zc, Nat.reduceEqDiff, z0, Bool.and_self, and_self, g1, g2, g3, g9, g10, g11, g12, g13], ?_, x4.keep (XU _) (fun k hk => by have := hb4 k hk; simp; omega), hb4, ?_⟩⟩
       · show (DS.upd _ _ _).get (N + 5) = _
         rw [DS.upd_get_self, g54]; rfl
       · exact ((X2.trans X24 (fun k hk => by
          rcases List.mem_cons.1 hk with h | h
          · exact .inl (by simp [h])
          · have := hwb k h; exact .inr (by omega))).trans' (XU _))
     · rw [if_neg (fun h => q2 h.2)] at hwt
       simp (maxSteps := 4000000) only [zr, zh, zx, zN, zM, ze, zK, zi, zW, zm, zq, ZH, ZB, zC, zu, zg, zp, zk, zI, Zd, zP, zS, zQ, Yy, Zk, Zl, zt, z7, Zb, zl, zj, zf, zd, zc, Nat.reduceEqDiff, z0, z1, zL, Cells.get, getN, Nat.zero_add, Nat.blt_eq, if_true, Nat.add_zero, zD, decide_true, decide_false, g1, g2, g3, g9, g10, g11, g12, g13, e1, gq2, c1, hb, hg0, q1, q2, v1]
       exact ⟨L.length - (i + 1), by omega, ⟨i + 1, wv, rfl, by omega, rfl, by simp (maxSteps := 4000000) only [zd, zc, Nat.reduceEqDiff, z0, Bool.and_self, and_self, g1, g2, g3, g9, g10, g11, g12, g13], g5, by rw [hwt]; exact hw, hwb, X2⟩⟩
   · rw [if_neg (fun h => q1 h.1)] at hwt
     simp (maxSteps := 4000000) only [zr, zh, zx, zN, zM, ze, zK, zi, zW, zm, zq, ZH, XM, zC, zu, zg, zp, zk, zI, Zd, zP, zS, zQ, Yy, Zk, Zl, zt, z7, Zb, zl, zj, zf, zd, zc, Nat.reduceEqDiff, z0, z1, zL, Cells.get, getN, Nat.zero_add, Nat.blt_eq, if_true, if_false, z3, List.nil_append, Nat.add_zero, zD, decide_true, decide_false, g1, g2, g3, g9, g10, g11, g12, g13, e1, gq2, c1, hb, hg0, q1, v1]
     exact ⟨L.length - (i + 1), by omega, ⟨i + 1, wv, rfl, by omega, rfl, by simp (maxSteps := 4000000) only [zd, zc, Nat.reduceEqDiff, z0, Bool.and_self, and_self, g1, g2, g3, g9, g10, g11, g12, g13], g5, by rw [hwt]; exact hw, hwb, X2⟩⟩
 · obtain rfl : i = L.length := by omega
   have e1 : ¬ (L.length : Int) < (L.length : Int) := by omega
   rw [List.take_length] at hw
   simp (maxSteps := 4000000) only [zr, zh, zx, ZA, ze, Ze, Zg, zi, Zf, zm, zq, zu, zg, zp, zk, zI, zP, zS, zQ, Zk, Zl, Zz, Zi, zt, z7, Zb, zl, zj, zf, zd, zc, Nat.reduceEqDiff, z0, z1, zL, Cells.get, getN, Nat.zero_add, Zh, zZ, List.length_cons, List.length_nil, allOne, zJ, Bool.and_self, Bool.and_true, Bool.and_eq_true, Nat.beq_eq, Nat.ble_eq, if_true, DS.wrC, Cells.size, Cells.fillFrom, Cells.set, wrN, Nat.add_zero, decide_false, g1, g2, g3, g9, g10, g11, g12, g13, e1, gq2]
   obtain ⟨S3, hS3⟩ : ∃ S3 : DS, S3 = (s2.new (.cells (.list [.int .i64 0]) false)).upd s2.next (.cells (.list [.int .i64 0]) false) := ⟨_, rfl⟩
   simp (maxSteps := 4000000) (maxDischargeDepth := 8) only [zr, zh, zN, ze, zi, zm, zq, zg, zY, zk, zI, zl, zf, zy, zc, z0, Nat.zero_add, List.length_cons, List.length_nil, Bool.and_self, Nat.le_refl, and_self, if_true, Zj, zo, ZF, zX, Nat.reduceLT, hG2]
   rw [← hS3]
   have X3 : Ext [] s2 S3 := by rw [hS3]; exact (Ext.new (F := [])).trans (Ext.upd (F := [s2.next]) (.inl (by simp))) (by simp)
   have hG3 := X3.good hG2
   have n3 : S3.next = s2.next + 1 := by rw [hS3]; simp (maxSteps := 4000000) (maxDischargeDepth := 8) only [DS.upd_next, zU]
   have q6 : S3.get s2.next = some (.cells (.list [.int .i64 0]) false) := by rw [hS3]; simp (maxSteps := 4000000) (maxDischargeDepth := 8) only [DS.upd_get_self, Option.map_some, zo, hG2]
   clear hS3
   obtain ⟨A, hA⟩ : ∃ A, A = s2.next := ⟨_, rfl⟩
   simp only [← hA] at n3 q6 hn2 ⊢
   refine Cc (by simp (maxSteps := 4000000) only [zl, zd, z1, g11]; rfl) ?_
   generalize hO1 : Wn _ _ _ _ = O1
   obtain ⟨tt, hO1', t9, t10, t12, t14⟩ : ∃ tt, O1 = Wn tt [65, 66] CM KQ ∧ tt.get 9 = some (.pointer (some ⟨N, 0, none⟩)) ∧ tt.get 10 = some (.pointer (some ⟨N + 1, 0, none⟩)) ∧ tt.get 12 = some (.pointer (some ⟨N + 5, 0, none⟩)) ∧ tt.get 14 = some (.pointer (some ⟨A, 0, none⟩)) := ⟨_, hO1.symm, by simp (maxSteps := 4000000) only [zc, Nat.reduceEqDiff, z0, g9], by simp (maxSteps := 4000000) only [zc, Nat.reduceEqDiff, z0, g10], by simp (maxSteps := 4000000) only [zc, Nat.reduceEqDiff, z0, g12], by simp (maxSteps := 4000000) only [zd, zc, Nat.reduceEqDiff, z0]⟩
   have XU3 : Ext [] S3 ((S3.new .dfr).new O1) := Ext.new.trans' Ext.new
   have gy0 : ((S3.new .dfr).new O1).get (S3.next + 1) = some O1 := by simp (maxSteps := 4000000) (maxDischargeDepth := 8) only [zU, zo, zA, hG3]
   have gd0 : ((S3.new .dfr).new O1).get S3.next = some .dfr := by simp (maxSteps := 4000000) (maxDischargeDepth := 8) only [zU, zo, zz, zA, Nat.lt_add_one, hG3]
   have nU : ((S3.new .dfr).new O1).next = S3.next + 2 := by simp (maxSteps := 4000000) (maxDischargeDepth := 8) only [Nat.reduceAdd, zU, Nat.add_assoc]
   obtain ⟨U, hU⟩ : ∃ U : DS, U = (S3.new .dfr).new O1 := ⟨_, rfl⟩
   rw [← hU] at XU3 gy0 gd0 nU ⊢
   clear hU
   have X2U : Ext [] s2 U := X3.trans' XU3
   have X0U : Ext [N + 5] S0 U := X2.trans' (X2U.weaken (by simp))
   have XsU : Ext [] s U := XA.trans' X2U
   have hGU := XsU.good hG
   have u6 := XU3.keep q6 (by simp)
   have u5 := X2U.keep g5 (by simp)
   have u0 := X0U.keep a0 (by simp)
   have u1 := X0U.keep a1 (by simp)
   have u2 := X0U.keep a2 (by simp)
   have u3 := X0U.keep a3 (by simp)
   have u4 := X0U.keep a4 (by simp)
   have wU : ∀ k, N ≤ k → U.wr k = true := fun k hk => X0U.wrs (w0 k hk)
   have hwU := hw.keep X2U (by simp)
   have hwv : ∀ k, k ∈ blk wv → N + 6 ≤ k ∧ k < A := fun k hk => ⟨hwb k hk, by rw [hA]; exact hw.lt k hk⟩
   obtain ⟨y1, hy1⟩ : ∃ y1, y1 = S3.next + 1 := ⟨_, rfl⟩
   have hdf : S3.next = A + 1 := n3
   have hy1' : y1 = A + 2 := by omega
   rw [hdf] at gd0 nU
   rw [← hy1] at gy0
   rw [← hy1, hdf]
   have cU := c.keep XsU (by simp)
   have hwant : (ZM (WN f t L)).length = (WN f t L).length := ZY _
   have hwle := CW f t L
   refine W.mono (Cp (F := [A, y1, N + 1]) (J := WiJ U A y1 tt (pos f L)) (Stop := WiS U A y1 (N + 1)) hE hI hG' (p := p) (kv := kv) (vv := vv) (L := L) (room := room) (d := d) (c := N + 2) (c2 := N + 3) (c3 := N + 4) (k := f) (to := t) (fun i S hj => ⟨cU.keep hj.xt (fun k hk => by have := hcl k hk; simp; omega), hj.xt.keep u2 (by simp; omega), hj.xt.keep u3 (by simp; omega), hj.xt.keep u4 (by simp; omega), hj.xt.good hGU⟩) ⟨by omega, by omega, by omega⟩ (fun i S S' G hj X hd => ?_) (fun S S' G hj X hd => ?_) (by simp; omega) (fun i x S hx hge hxt hj => ?_) ?_ (by omega)) ?_
   · exact ⟨X.keep hj.gn (fun h => by have := hd _ h; omega), X.keep hj.gy (fun h => by have := hd _ h; omega), hj.xt.trans X (fun k hk => .inr (hd k hk))⟩
   · obtain ⟨gr, ⟨tl, gy⟩, xt⟩ := hj
     exact ⟨X.keep gr (fun h => by have := hd _ h; omega), ⟨tl, X.keep gy (fun h => by have := hd _ h; omega)⟩, xt.trans X (fun k hk => .inr (hd k hk))⟩
   · obtain ⟨gn, gy, XS⟩ := hj
     have hil := (List.getElem?_eq_some_iff.1 hx).1
     have hws2 : ∀ k, N ≤ k → S.wr k = true := fun k hk => XS.wrs (wU k hk)
     have s5 := XS.keep u5 (by simp; omega)
     have s0' := XS.keep u0 (by simp; omega)
     have s1 := XS.keep u1 (by simp; omega)
     have hwS := hwU.keep XS (fun k hk => by have := hwv k hk; simp; omega)
     have hwx : (WN f t L)[i - pos f L]? = some x := Pg c.so (by rw [show pos f L + (i - pos f L) = i by omega]; exact hx) hxt
     have hnl := (List.getElem?_eq_some_iff.1 hwx).1
     obtain ⟨b, sp, hvv, hsp, hgb, hww⟩ := hwS.at (fun e => by rw [e] at hwant; simp at hwant; omega)
     rw [hwant] at hvv
     rw [hvv] at s5
     have hb6 := hwv b (by rw [hvv]; simp [blk])
     have hg0 := WV hwx
     have hg1 := Qt hwx
     have e1 : ¬ ((WN f t L).length : Int) ≤ ((i - pos f L : Nat) : Int) := by omega
     have w1 : zE .i64 (((i - pos f L : Nat) : Int) + 1) = ((i + 1 - pos f L : Nat) : Int) := by rw [zR (by omega) (by omega)]; omega
     refine KU gy rfl ?_
     simp (maxSteps := 4000000) only [zr, zh, ze, zi, zm, zq, zg, zI, zl, zf, zd, zc, Nat.reduceEqDiff, z0, z1, pv, Wg, XG, CM]
     refine JP gy (hws2 _ (by omega)) ?_
     obtain ⟨Sb, hSb⟩ : ∃ Sb : DS, Sb = S.upd y1 (.loop .busy .normal tt [65, 66] CM KQ) := ⟨_, rfl⟩
     have Xb : Ext [y1] S Sb := by rw [hSb]; exact Ext.upd (.inl (by simp))
     have gby : Sb.get y1 = some (.loop .busy .normal tt [65, 66] CM KQ) := by rw [hSb, DS.upd_get_self, gy]; rfl
     show WC _ _ _ KQ ⟨_, S.upd y1 (.loop .busy .normal tt [65, 66] CM KQ), []⟩ _
     rw [← hSb]
     clear hSb
     have b0 := Xb.keep s0' (by simp; omega)
     have b1 := Xb.keep s1 (by simp; omega)
     have b5 := Xb.keep s5 (by simp; omega)
     have bn := Xb.keep gn (by simp; omega)
     have bb := Xb.keep hgb (by simp; omega)
     have bw : ∀ k, N ≤ k → Sb.wr k = true := fun k hk => Xb.wrs (hws2 k hk)
     have bwA := bw A (by omega)
     have bw1 := bw (N + 1) (by omega)
     have hx1 : (x.1 = x.1) = True := eq_true rfl
     have hx2 : (x.2 = x.2) = True := eq_true rfl
     have X4 : Ext [A] Sb (Sb.upd A (.cells (.list [.int .i64 ((i + 1 - pos f L : Nat) : Int)]) false)) := Ext.upd (.inl (by simp))
     have g4y := X4.keep gby (by simp; omega)
     have g40 := X4.keep b0 (by simp; omega)
     have g41 := X4.keep b1 (by simp; omega)
     have g4n : (Sb.upd A (.cells (.list [.int .i64 ((i + 1 - pos f L : Nat) : Int)]) false)).get A = some (.cells (.list [.int .i64 ((i + 1 - pos f L : Nat) : Int)]) false) := by rw [DS.upd_get_self, bn]; rfl
     obtain ⟨S4, hS4⟩ : ∃ S4 : DS, S4 = Sb.upd A (.cells (.list [.int .i64 ((i + 1 - pos f L : Nat) : Int)]) false) := ⟨_, rfl⟩
     rw [← hS4] at X4 g4y g40 g41 g4n
     have w4 : ∀ k, N ≤ k → S4.wr k = true := fun k hk => X4.wrs (bw k hk)
     have w41 := w4 (N + 1) (by omega)
     have X14 : Ext [A, y1, N + 1] S S4 := (Xb.weaken (by simp)).trans' (X4.weaken (by simp))
     by_cases c2 : ((i + 1 - pos f L : Nat) : Int) = most
     · subst c2
       have hnn : (((i + 1 - pos f L : Nat) : Int) = ((i + 1 - pos f L : Nat) : Int)) = True := eq_true rfl
       simp (maxSteps := 4000000) only [zr, zh, zx, zN, zM, zV, ze, YI, zi, zm, zq, ZH, Zm, zC, zu, zg, zp, zY, zk, zI, Zd, zP, zQ, Yy, Zk, Zl, Zz, zt, z7, Zb, zl, zj, zf, zy, zd, zc, Nat.reduceEqDiff, z0, z1, zL, Cells.get, getN, Nat.zero_add, Zh, zZ, XV, List.length_cons, List.length_nil, allOne, zJ, Bool.and_self, Bool.and_true, Nat.beq_eq, Nat.ble_eq, Nat.blt_eq, Nat.le_refl, if_true, if_false, Bool.not_true, z3, DS.wrC, Cells.size, Cells.fillFrom, Cells.set, Zj, pp, pv, pw, pg, Nat.add_zero, zD, decide_true, decide_false, KQ, t9, t10, t12, t14, b0, b1, b5, bn, bb, hnl, e1, hg0, hg1, w1, bwA, bw1, hx1, hx2, ← hS4, g4n, g40, g41, hnn, w41]
       have X5 : Ext [N + 1] S4 (S4.upd (N + 1) (.cells (.list [.bool true]) false)) := Ext.upd (.inl (by simp))
       have g5y := X5.keep g4y (by simp; omega)
       refine Qc g5y (X5.wrs (w4 _ (by omega))) ?_
       have X6 : ∀ ob, Ext [y1] (S4.upd (N + 1) (.cells (.list [.bool true]) false)) ((S4.upd (N + 1) (.cells (.list [.bool true]) false)).upd y1 ob) := fun ob => Ext.upd (.inl (by simp))
       have XE : ∀ ob, Ext [A, y1, N + 1] S ((S4.upd (N + 1) (.cells (.list [.bool true]) false)).upd y1 ob) := fun ob => (X14.trans' (X5.weaken (by simp))).trans' ((X6 ob).weaken (by simp))
       refine ⟨.inr ⟨rfl, (X6 _).keep (by rw [DS.upd_get_self, g41]; rfl) (by simp; omega), ⟨tt, ?_⟩, (XS.weaken (by simp)).trans' (XE _)⟩, XE _⟩
       show (DS.upd _ y1 _).get y1 = _
       rw [DS.upd_get_self, g5y]; rfl
     · simp (maxSteps := 4000000) only [zr, zh, zx, zN, zM, ze, zK, zi, zm, zq, ZH, Zm, zu, zg, zp, zY, zk, zI, Zd, zP, zQ, Yy, Zk, Zl, Zz, zt, z7, Zb, zl, zj, zf, zy, zd, zc, Nat.reduceEqDiff, z0, z1, zL, Cells.get, getN, Nat.zero_add, Zh, zZ, List.length_cons, List.length_nil, allOne, zJ, Bool.and_self, Bool.and_true, Nat.beq_eq, Nat.ble_eq, Nat.blt_eq, Nat.le_refl, if_true, if_false, Bool.not_true, z3, DS.wrC, Cells.size, Cells.fillFrom, Cells.set, Zj, pp, pv, pw, pg, Nat.add_zero, zD, decide_true, decide_false, KQ, t9, t10, t12, t14, b0, b1, b5, bn, bb, hnl, e1, hg0, hg1, w1, bwA, bw1, hx1, hx2, ← hS4, g4n, g40, g41, c2, w41]
       refine Qc g4y (w4 _ (by omega)) ?_
       have X6 : ∀ ob, Ext [y1] S4 (S4.upd y1 ob) := fun ob => Ext.upd (.inl (by simp))
       have Xb4 : Ext [A, y1] S S4 := (Xb.weaken (by simp)).trans' (X4.weaken (by simp))
       refine ⟨.inl ⟨rfl, (X6 _).keep g4n (by simp; omega), ?_, (XS.trans' Xb4).trans' ((X6 _).weaken (by simp))⟩, X14.trans' ((X6 _).weaken (by simp))⟩
       show (DS.upd _ y1 _).get y1 = _
       rw [DS.upd_get_self, g4y]; rfl
   · exact ⟨by rw [Nat.sub_self]; exact u6, by rw [gy0, hO1'], .refl⟩
   have g12t := g12
   rintro ⟨v3, s3⟩ (⟨i, hj, hge, hle, hlt, hno⟩ | ⟨gr, ⟨tl, gy⟩, XS⟩)
   · obtain ⟨gn, gy, XS⟩ := hj
     simp only at gn gy XS
     have hw3 : ∀ k, N ≤ k → s3.wr k = true := fun k hk => XS.wrs (wU k hk)
     refine Qd (gy.trans rfl) (.inl rfl) (hw3 _ (by omega)) ?_
     generalize hOE : DObj.loop .exhausted .normal _ _ _ _ = OE
     have X4 : Ext [y1] s3 (s3.upd y1 OE) := Ext.upd (.inl (by simp))
     obtain ⟨S4, hS4⟩ : ∃ S4 : DS, S4 = s3.upd y1 OE := ⟨_, rfl⟩
     rw [← hS4] at X4 ⊢
     clear hS4
     have r1 := X4.keep (XS.keep u1 (by simp; omega)) (by simp; omega)
     have r5 := X4.keep (XS.keep u5 (by simp; omega)) (by simp; omega)
     have rn := X4.keep gn (by simp; omega)
     have rd := X4.keep (XS.keep gd0 (by simp; omega)) (by simp; omega)
     have rw' : ∀ k, N ≤ k → S4.wr k = true := fun k hk => X4.wrs (hw3 k hk)
     have rw1 := rw' (N + 1) (by omega)
     have hlen : (WN f t L).length = i - pos f L := Sl c.so (n := i - pos f L) (by omega) (fun j x hj hx => hlt _ x (Nat.le_add_right _ _) (by omega) hx) (fun x hx => hno x (by rwa [show pos f L + (i - pos f L) = i by omega] at hx))
     obtain ⟨av, hwsh⟩ := hw.shape
     rw [hwant, hlen] at hwsh
     rw [hwsh] at r5
     have hnn : (((i - pos f L : Nat) : Int) = ((i - pos f L : Nat) : Int)) = True := eq_true rfl
     simp (maxSteps := 4000000) only [zr, zh, zV, ze, zK, zi, zm, zq, zg, zp, zY, zk, zP, Zk, Zl, Zz, zt, z7, Zb, zl, zf, zy, zd, zc, Nat.reduceEqDiff, z0, z1, zL, Cells.get, getN, Nat.zero_add, Zh, XV, List.length_cons, List.length_nil, allOne, zJ, Bool.and_self, Bool.and_true, Nat.beq_eq, Nat.ble_eq, Nat.le_refl, if_true, DS.wrC, Cells.size, Cells.fillFrom, Cells.set, Zj, decide_true, g10, g12, r1, r5, rn, rw1, hnn]
     rw [W2 (by rw [DS.upd_get_ne (by omega)]; exact rd) (by rw [DS.upd_wr]; exact rw' _ (by omega))]
     have m4 : ((S4.upd (N + 1) (.cells (.list [.bool true]) false)).rid (A + 1)).get (N + 1) = some (.cells (.list [.bool true]) false) := by
      rw [DS.rid_get_ne (by omega), DS.upd_get_self, r1]; rfl
     simp (maxSteps := 4000000) only [zk, Zo, zl, zc, Nat.reduceEqDiff, z0, z1, zw, zG, Cells.get, getN, g10, m4]
     refine hQ _ ⟨rfl, ?_⟩
     have y1' : Ext [N + 1, A + 1] S4 (S4.upd (N + 1) (.cells (.list [.bool true]) false)) := Ext.upd (.inl (by simp))
     have y2 : Ext [N + 1, A + 1] (S4.upd (N + 1) (.cells (.list [.bool true]) false)) ((S4.upd (N + 1) (.cells (.list [.bool true]) false)).rid (A + 1)) := Ext.rid (.inl (by simp))
     exact ((XsU.trans XS (by simp; omega)).trans X4 (by simp; omega)).trans (y1'.trans' y2) (by simp; omega)
   · simp only at gr gy XS
     have hw3 : ∀ k, N ≤ k → s3.wr k = true := fun k hk => XS.wrs (wU k hk)
     refine Qd gy (.inr rfl) (hw3 _ (by omega)) ?_
     generalize hOE : DObj.loop .exhausted .ret _ _ _ _ = OE
     have X4 : Ext [y1] s3 (s3.upd y1 OE) := Ext.upd (.inl (by simp))
     obtain ⟨S4, hS4⟩ : ∃ S4 : DS, S4 = s3.upd y1 OE := ⟨_, rfl⟩
     rw [← hS4] at X4 ⊢
     clear hS4
     have r1 := X4.keep gr (by simp; omega)
     have rd := X4.keep (XS.keep gd0 (by simp; omega)) (by simp; omega)
     simp (maxSteps := 4000000) only [Zx, YI, g10]
     rw [W2 rd (X4.wrs (hw3 _ (by omega)))]
     have m4 : (S4.rid (A + 1)).get (N + 1) = some (.cells (.list [.bool true]) false) := by
      rw [DS.rid_get_ne (by omega)]; exact r1
     simp (maxSteps := 4000000) only [zk, Zo, zl, zc, Nat.reduceEqDiff, z0, z1, zw, zG, Cells.get, getN, g10, m4]
     refine hQ _ ⟨rfl, ?_⟩
     exact ((XsU.trans XS (by simp; omega)).trans X4 (by simp; omega)).trans (Ext.rid (F := [A + 1]) (.inl (by simp))) (by simp; omega)
end
end Go.Dx.StA
