/- A part. -/
import Derived.Test.YtpfkbiaikfbpeaaGreatQ2Cd
import Derived.Test.YtpfkbiaikfbpeaaGreatQ1Bl
import Derived.Test.YtpfkbiaikfbpeaaGreatDxF
import Derived.Test.YtpfkbiaikfbpeaaGreatDxSorted
set_option linter.unusedVariables false
set_option linter.unusedSimpArgs false
set_option linter.unusedSectionVars false
set_option maxRecDepth 100000
set_option maxHeartbeats 4000000
namespace Go.Dx.RpB
open Go Go.Dx Go.Proofs.YtpfkbiaikfbpeaaGreat
structure TbFns (E : Env) : Prop where
 fmade : E.fn 49 = some d49
 imade : E.intr 49 = none
 fpack : E.fn 50 = some d50
 ipack : E.intr 50 = none
 fcl : E.fn 96 = some d96
 icl : E.intr 96 = none
 fcl1 : E.fn 132 = some d132
 icl1 : E.intr 132 = none
 ikeys : E.intr 133 = some fun all s => WZ all 169 s
 isorted : E.intr 76 = some fun all s => Yw 169 all s
 fform : E.fn 99 = some d99
 iform : E.intr 99 = none
 fenc : E.fn 98 = some d98
 ienc : E.intr 98 = none
 fbyte : E.fn 139 = some d139
 ibyte : E.intr 139 = none
 fint : E.fn 131 = some d131
 iint : E.intr 131 = none
 fii : E.fn 130 = some d130
 iii : E.intr 130 = none
 fflag : E.fn 141 = some d141
 iflag : E.intr 141 = none
 fturn : E.fn 179 = some d179
 iturn : E.intr 179 = none
 fblob : E.fn 142 = some d142
 iblob : E.intr 142 = none
 ffb : E.fn 140 = some d140
 ifb : E.intr 140 = none
 fll : E.fn 138 = some d138
 ill : E.intr 138 = none
 fmany : E.fn 137 = some d137
 imany : E.intr 137 = none
 fmany1 : E.fn 173 = some d173
 imany1 : E.intr 173 = none
 fclip : E.fn 126 = some d126
 iclip : E.intr 126 = none
 fdig : E.fn 29 = some d29
 idig : E.intr 29 = none
 fr : ∀ d, ZM (dcall E d)
def P2 (v : Value) : Prop := ∃ f a b g a' b', v = .agg ⟨[.func (.func f) a b, .func (.func g) a' b']⟩
theorem P2.field {E : Env} {m : Nat} {s : DS} {v : Value} (h : P2 v) : Zv E 3 m s v (fun _ _ _ (_ : Unit) => True) (fun _ => False) (fun _ => []) := by
 obtain ⟨f, a, b, g, a', b', rfl⟩ := h
 exact ⟨f, a, b, g, a', b', [], rfl, (fun _ h => nomatch h), (fun _ h => nomatch h), fun _ _ _ _ _ _ _ _ _ _ _ _ h => h.elim⟩
section
variable {E : Env} (hC : CFns E) (hT : TbFns E) {s : DS} {d : Nat} {va vb : Value}
include hC hT
theorem TP (hG : s.Good) : W (dcall E (d + 2) (.func (.func 139) #[] #[]) [] s) fun r => P2 r.1 ∧ Ext [] s r.2 := by
 refine Zz fun Q hQ => ?_
 rw [zF hT.ibyte hT.fbyte rfl]
 simp (maxSteps := 4000000) (maxDischargeDepth := 8) only [zr, zf, zc, zg, zn, zt, ze, Zp, zB, zk, zy, zd, z4, z5, pp, d139, hG]
 refine W.mono (Qv hC (DS.new_good hG) _ _) ?_
 rintro ⟨v2, s2⟩ ⟨hv2, _, _, X2, _⟩
 simp only at hv2 X2
 subst hv2
 have T0 := X2.keep (DS.new_get_self (o := .cells (.list [.nilFunc, .nilFunc]) false) hG) (by simp)
 have wT := X2.wrs (show (s.new (.cells (.list [.nilFunc, .nilFunc]) false)).wr s.next = true from (hG _ (Nat.le_refl _)).2)
 simp (maxSteps := 4000000) (maxDischargeDepth := 8) only [zI, zc, zg, zn, zt, ze, Zi, zi, Yl, z9, zx, zl, zd, zJ, zb, za, z0, z1, zo, zz, Cells.get, getN, Nat.zero_add, Nat.reduceAdd, ZA, zD, List.length_cons, List.length_nil, allOne, zQ, Bool.and_self, Bool.and_true, Nat.beq_eq, Nat.ble_eq, Nat.le_refl, if_true, DS.wrC, Cells.size, Cells.fillFrom, Cells.set, Zd, DS.upd_get_self, Option.map_some, z7, DS.read, Cells.take, zZ, Nat.add_assoc, Nat.lt_add_one, T0, wT]
 exact hQ _ ⟨⟨_, _, _, _, _, _, rfl⟩, (Ext.new.trans' X2).trans (Ext.upd (F := [s.next]) (.inl (by simp))) (by simp)⟩
theorem R2 (hG : s.Good) : W (dcall E (d + 2) (.func (.func 131) #[] #[]) [] s) fun r => P2 r.1 ∧ Ext [] s r.2 := by
 refine Zz fun Q hQ => ?_
 rw [zF hT.iint hT.fint rfl]
 simp (maxSteps := 4000000) (maxDischargeDepth := 8) only [zr, zf, zc, zg, zn, zt, ze, Zp, zB, zk, zy, zd, z4, z5, pp, d131, hG]
 refine W.mono (Qv hC (DS.new_good hG) _ _) ?_
 rintro ⟨v2, s2⟩ ⟨hv2, _, _, X2, _⟩
 simp only at hv2 X2
 subst hv2
 have T0 := X2.keep (DS.new_get_self (o := .cells (.list [.nilFunc, .nilFunc]) false) hG) (by simp)
 have wT := X2.wrs (show (s.new (.cells (.list [.nilFunc, .nilFunc]) false)).wr s.next = true from (hG _ (Nat.le_refl _)).2)
 simp (maxSteps := 4000000) (maxDischargeDepth := 8) only [zI, zc, zg, zn, zt, ze, Zi, zi, Yl, z9, zx, zl, zd, zJ, zb, za, z0, z1, zo, zz, Cells.get, getN, Nat.zero_add, Nat.reduceAdd, ZA, zD, List.length_cons, List.length_nil, allOne, zQ, Bool.and_self, Bool.and_true, Nat.beq_eq, Nat.ble_eq, Nat.le_refl, if_true, DS.wrC, Cells.size, Cells.fillFrom, Cells.set, Zd, DS.upd_get_self, Option.map_some, z7, DS.read, Cells.take, zZ, Nat.add_assoc, Nat.lt_add_one, T0, wT]
 exact hQ _ ⟨⟨_, _, _, _, _, _, rfl⟩, (Ext.new.trans' X2).trans (Ext.upd (F := [s.next]) (.inl (by simp))) (by simp)⟩
theorem TQ (hG : s.Good) : W (dcall E (d + 2) (.func (.func 142) #[] #[]) [] s) fun r => P2 r.1 ∧ Ext [] s r.2 := by
 refine Zz fun Q hQ => ?_
 rw [zF hT.iblob hT.fblob rfl]
 simp (maxSteps := 4000000) (maxDischargeDepth := 8) only [zr, zf, zc, zg, zn, zt, ze, Zp, zB, zk, zy, zd, z4, z5, pp, d142, hG]
 refine W.mono (Qv hC (DS.new_good hG) _ _) ?_
 rintro ⟨v2, s2⟩ ⟨hv2, _, _, X2, _⟩
 simp only at hv2 X2
 subst hv2
 have G2 := X2.good (DS.new_good hG)
 have T0 := X2.keep (DS.new_get_self (o := .cells (.list [.nilFunc, .nilFunc]) false) hG) (by simp)
 have wT := X2.wrs (show (s.new (.cells (.list [.nilFunc, .nilFunc]) false)).wr s.next = true from (hG _ (Nat.le_refl _)).2)
 have hlt := DS.get_lt' T0
 simp (maxSteps := 4000000) (maxDischargeDepth := 8) only [zr, zf, zI, zc, zg, zn, zt, ze, Zi, Z3, zi, ZG, Qr, Yl, Zp, z9, zx, zl, zd, zJ, zb, za, z0, z1, zo, zz, z4, z5, Cells.get, getN, Nat.zero_add, Nat.reduceAdd, ZA, cells_func, zD, List.length_cons, List.length_nil, allOne, zQ, Bool.and_self, Bool.and_true, Bool.and_eq_true, Nat.beq_eq, Nat.ble_eq, Nat.reduceLeDiff, Nat.le_refl, and_self, if_true, DS.wrC, Cells.size, Cells.fillFrom, Cells.set, Zd, zL, List.take_zero, List.take_succ_cons, List.drop_succ_cons, List.drop_zero, List.nil_append, List.cons_append, List.drop_nil, List.append_nil, DS.upd_get_self, DS.upd_get_ne, DS.upd_wr, Option.map_some, z7, wrN, DS.read, Cells.take, zw, zE, zK, DS.upd_good, Yq, zZ, Xw, Nat.add_assoc, Nat.reduceLT, Nat.lt_add_one, Nat.succ_pos, T0, wT, G2, hlt]
 refine hQ _ ⟨⟨_, _, _, _, _, _, rfl⟩, ?_⟩
 have u1 : ∀ o, Ext [s.next, s2.next] s2 (s2.new o) := fun o => Ext.new
 have u2 : ∀ (S : DS) o, Ext [s.next, s2.next] S (S.upd s2.next o) := fun S o => Ext.upd (.inl (by simp))
 have u3 : ∀ (S : DS) o, Ext [s.next, s2.next] S (S.upd s.next o) := fun S o => Ext.upd (.inl (by simp))
 have hle := X2.le
 exact (Ext.new.trans' X2).trans (((u1 _).trans' (u2 _ _)).trans' (u3 _ _)) (by simp at hle ⊢; omega)
theorem TJ (hG : s.Good) {x : Value} : W (dcall E (d + 1) (.func (.func 179) #[] #[]) [x, .func (.func (180)) #[] #[], .func (.func (181)) #[] #[]] s) fun r => P2 r.1 ∧ Ext [] s r.2 := by
 refine Zz fun Q hQ => ?_
 rw [zF hT.iturn hT.fturn rfl]
 simp (maxSteps := 4000000) (maxDischargeDepth := 8) only [zr, zf, zI, zc, zg, zn, zt, ze, Zi, Z3, zi, ZG, Qr, Yl, Zp, Z4, z9, zx, zl, zd, zJ, zb, za, z0, zq, List.getElem?_cons_zero, List.getElem?_cons_succ, z1, zo, zz, z4, z5, Cells.get, getN, Nat.zero_add, Nat.reduceAdd, ZA, cells_func, zD, List.length_cons, List.length_nil, allOne, zQ, Bool.and_self, Bool.and_true, Bool.and_eq_true, Nat.beq_eq, Nat.ble_eq, Nat.reduceLeDiff, Nat.le_refl, and_self, if_true, DS.wrC, Cells.size, Cells.fillFrom, Cells.set, Zd, zL, List.take_zero, List.take_succ_cons, List.drop_succ_cons, List.drop_zero, List.nil_append, List.cons_append, List.drop_nil, List.append_nil, pp, DS.upd_get_self, Option.map_some, z7, wrN, DS.read, Cells.take, zw, zK, Yq, zZ, Nat.add_assoc, Nat.reduceLT, Nat.lt_add_one, d179, hG]
 refine hQ _ ⟨⟨_, _, _, _, _, _, rfl⟩, ?_⟩
 exact (Ext.new.trans' (Ext.new.trans' (Ext.new.trans' Ext.new))).trans (Ext.upd (F := [s.next + 3]) (.inl (by simp))) (by simp)
theorem TO (hG : s.Good) : W (dcall E (d + 2) (.func (.func 141) #[] #[]) [] s) fun r => P2 r.1 ∧ Ext [] s r.2 := by
 refine Zz fun Q hQ => ?_
 rw [zF hT.iflag hT.fflag rfl]
 simp (maxSteps := 4000000) (maxDischargeDepth := 8) only [zr, zf, zc, zg, zn, zt, ze, Zp, zB, zk, zy, zd, z4, z5, pp, d141, hG]
 refine W.mono (Qv hC (DS.new_good hG) _ _) ?_
 rintro ⟨v2, s2⟩ ⟨hv2, _, _, X2, _⟩
 simp only at hv2 X2
 subst hv2
 have G2 := X2.good (DS.new_good hG)
 have T0 := X2.keep (DS.new_get_self (o := .cells (.list [.nilFunc, .nilFunc]) false) hG) (by simp)
 have wT := X2.wrs (show (s.new (.cells (.list [.nilFunc, .nilFunc]) false)).wr s.next = true from (hG _ (Nat.le_refl _)).2)
 simp (maxSteps := 4000000) only [zt, ze, zB, zl, zy, zd, zb, z1, z4, z5, z7]
 have hS := X2.good (DS.new_good hG)
 refine W.mono (TJ hC hT (d := d) hS (x := .agg ⟨[.func (.func 210) #[] #[.pointer (some ⟨s.next + 1, 0, none⟩), .pointer (some ⟨s.next + 1 + 1, 0, none⟩)], .func (.func 212) #[] #[.pointer (some ⟨s.next + 1, 0, none⟩), .pointer (some ⟨s.next + 1 + 1, 0, none⟩)]]⟩)) ?_
 rintro ⟨v3, s3⟩ ⟨⟨f, a, b, g, a', b', hv3⟩, X3⟩
 simp only at hv3 X3
 subst hv3
 have T3 := X3.keep T0 (by simp)
 have w3 := X3.wrs wT
 simp (maxSteps := 4000000) (maxDischargeDepth := 8) only [zI, zc, zg, zn, zt, ze, Zi, zi, Yl, z9, zx, zl, zd, zJ, zb, za, z0, z1, zo, zz, Cells.get, getN, Nat.zero_add, Nat.reduceAdd, ZA, zD, List.length_cons, List.length_nil, allOne, zQ, Bool.and_self, Bool.and_true, Nat.beq_eq, Nat.ble_eq, Nat.le_refl, if_true, DS.wrC, Cells.size, Cells.fillFrom, Cells.set, Zd, DS.upd_get_self, Option.map_some, DS.read, Cells.take, zZ, Nat.add_assoc, Nat.lt_add_one, Nat.succ_pos, T3, w3]
 exact hQ _ ⟨⟨_, _, _, _, _, _, rfl⟩, ((Ext.new.trans' X2).trans' X3).trans (Ext.upd (F := [s.next]) (.inl (by simp))) (by simp)⟩
theorem Nq (hG : s.Good) (ha : P2 va) (hb : P2 vb) : W (dcall E (d + 1) (.func (.func 130) #[] #[]) [va, vb] s) fun r => P2 r.1 ∧ Ext [] s r.2 := by
 obtain ⟨f1, a1, b1, g1, p1, q1, rfl⟩ := ha
 obtain ⟨f2, a2, b2, g2, p2, q2, rfl⟩ := hb
 refine Zz fun Q hQ => ?_
 rw [zF hT.iii hT.fii rfl]
 simp (maxSteps := 4000000) (maxDischargeDepth := 8) only [zr, zf, zA, zO, zI, zc, zg, zn, zt, ZK, zV, zv, ze, zu, Zi, Z3, ZF, zi, zM, zU, Z8, ZG, Qr, zH, Zh, Yl, Zp, Z4, zm, z9, Zl, zx, zl, zk, zd, zJ, zb, za, z0, zq, List.getElem?_cons_zero, List.getElem?_cons_succ, z1, zo, zz, z4, z5, zC, Cells.get, getN, Nat.zero_add, Nat.reduceAdd, ZA, cells_func, zD, List.length_cons, List.length_nil, allOne, zQ, Bool.and_self, Bool.and_true, Bool.and_eq_true, Nat.beq_eq, Nat.ble_eq, Nat.reduceLeDiff, Nat.le_refl, and_self, if_true, if_false, Bool.not_false, z3, DS.wrC, Cells.size, Cells.fillFrom, Cells.set, Zd, zL, List.take_zero, List.take_succ_cons, List.drop_succ_cons, List.drop_zero, List.nil_append, List.cons_append, List.drop_nil, List.append_nil, pp, pv, pg, DS.upd_get_self, Option.map_some, z7, wrN, Nat.add_zero, DS.read, Cells.take, zw, zE, zK, Yq, zZ, Z0, Nat.add_assoc, Nat.reduceLT, Nat.lt_add_one, Nat.succ_pos, d130, hG]
 refine hQ _ ⟨⟨_, _, _, _, _, _, rfl⟩, ?_⟩
 exact (Ext.new.trans' (Ext.new.trans' Ext.new)).trans (Ext.upd (F := [s.next + 2]) (.inl (by simp))) (by simp)
theorem Nr (hG : s.Good) (ha : P2 va) (hb : P2 vb) : W (dcall E (d + 1) (.func (.func 140) #[] #[]) [va, vb] s) fun r => P2 r.1 ∧ Ext [] s r.2 := by
 obtain ⟨f1, a1, b1, g1, p1, q1, rfl⟩ := ha
 obtain ⟨f2, a2, b2, g2, p2, q2, rfl⟩ := hb
 refine Zz fun Q hQ => ?_
 rw [zF hT.ifb hT.ffb rfl]
 simp (maxSteps := 4000000) (maxDischargeDepth := 8) only [zr, zf, zA, zO, zI, zc, zg, zn, zt, ZK, zV, zv, ze, zu, Zi, Z3, ZF, zi, zM, zU, Z8, ZG, Qr, zH, Zh, Yl, Zp, Z4, zm, z9, Zl, zx, zl, zk, zd, zJ, zb, za, z0, zq, List.getElem?_cons_zero, List.getElem?_cons_succ, z1, zo, zz, z4, z5, zC, Cells.get, getN, Nat.zero_add, Nat.reduceAdd, ZA, cells_func, zD, List.length_cons, List.length_nil, allOne, zQ, Bool.and_self, Bool.and_true, Bool.and_eq_true, Nat.beq_eq, Nat.ble_eq, Nat.reduceLeDiff, Nat.le_refl, and_self, if_true, if_false, Bool.not_false, z3, DS.wrC, Cells.size, Cells.fillFrom, Cells.set, Zd, zL, List.take_zero, List.take_succ_cons, List.drop_succ_cons, List.drop_zero, List.nil_append, List.cons_append, List.drop_nil, List.append_nil, pp, pv, pg, DS.upd_get_self, Option.map_some, z7, wrN, Nat.add_zero, DS.read, Cells.take, zw, zE, zK, Yq, zZ, Z0, Nat.add_assoc, Nat.reduceLT, Nat.lt_add_one, Nat.succ_pos, d140, hG]
 refine hQ _ ⟨⟨_, _, _, _, _, _, rfl⟩, ?_⟩
 exact (Ext.new.trans' (Ext.new.trans' Ext.new)).trans (Ext.upd (F := [s.next + 2]) (.inl (by simp))) (by simp)
theorem Np (hG : s.Good) (ha : P2 va) (hb : P2 vb) : W (dcall E (d + 1) (.func (.func 138) #[] #[]) [va, vb] s) fun r => P2 r.1 ∧ Ext [] s r.2 := by
 obtain ⟨f1, a1, b1, g1, p1, q1, rfl⟩ := ha
 obtain ⟨f2, a2, b2, g2, p2, q2, rfl⟩ := hb
 refine Zz fun Q hQ => ?_
 rw [zF hT.ill hT.fll rfl]
 simp (maxSteps := 4000000) (maxDischargeDepth := 8) only [zr, zf, zA, zO, zI, zc, zg, zn, zt, ZK, zV, zv, ze, zu, Zi, Z3, ZF, zi, zM, zU, Z8, ZG, Qr, zH, Zh, Yl, Zp, Z4, zm, z9, Zl, zx, zl, zk, zd, zJ, zb, za, z0, zq, List.getElem?_cons_zero, List.getElem?_cons_succ, z1, zo, zz, z4, z5, zC, Cells.get, getN, Nat.zero_add, Nat.reduceAdd, ZA, cells_func, zD, List.length_cons, List.length_nil, allOne, zQ, Bool.and_self, Bool.and_true, Bool.and_eq_true, Nat.beq_eq, Nat.ble_eq, Nat.reduceLeDiff, Nat.le_refl, and_self, if_true, if_false, Bool.not_false, z3, DS.wrC, Cells.size, Cells.fillFrom, Cells.set, Zd, zL, List.take_zero, List.take_succ_cons, List.drop_succ_cons, List.drop_zero, List.nil_append, List.cons_append, List.drop_nil, List.append_nil, pp, pv, pg, DS.upd_get_self, Option.map_some, z7, wrN, Nat.add_zero, DS.read, Cells.take, zw, zE, zK, Yq, zZ, Z0, Nat.add_assoc, Nat.reduceLT, Nat.lt_add_one, Nat.succ_pos, d138, hG]
 refine hQ _ ⟨⟨_, _, _, _, _, _, rfl⟩, ?_⟩
 exact (Ext.new.trans' (Ext.new.trans' Ext.new)).trans (Ext.upd (F := [s.next + 2]) (.inl (by simp))) (by simp)
theorem TN (hG : s.Good) : W (dcall E (d + 3) (.func (.func 99) #[] #[]) [] s) fun r => Zv E 4 s.next r.2 r.1 (GZ 4 (fun _ _ _ (_ : Unit) => True)) (fun xs => xs.length ≤ 4096 ∧ ∀ x, x ∈ xs → False) (fun xs => leB xs.length 2 ++ Xr (fun _ => []) xs) ∧ Ext [] s r.2 := by
 refine Zz fun Q hQ => ?_
 rw [zF hT.iform hT.fform rfl]
 simp (maxSteps := 4000000) (maxDischargeDepth := 8) only [zr, zf, zc, zg, zn, zt, ze, Zp, zB, zy, zd, z5, pp, d99, hG]
 have hG0 : ∀ o, (s.new o).Good := fun o => DS.new_good hG
 have h0 : ∀ o, (s.new o).get s.next = some o := fun o => DS.new_get_self hG
 have w0 : (s.new (.cells (.list [.nilFunc, .nilFunc]) false)).wr s.next = true := (hG _ (Nat.le_refl _)).2
 refine W.mono (TP hC hT (d := d) (hG0 _)) ?_
 rintro ⟨v1, s1⟩ ⟨q1, X1⟩
 simp only at q1 X1
 have hG1 := X1.good (hG0 _)
 simp (maxSteps := 4000000) only [zt, ze, zB, zy, zd, z5]
 refine W.mono (R2 hC hT (d := d) hG1) ?_
 rintro ⟨v2, s2⟩ ⟨q2, X2⟩
 simp only at q2 X2
 have hG2 := X2.good hG1
 simp (maxSteps := 4000000) only [zt, ze, zB, zl, zy, zd, zb, za, Nat.reduceEqDiff, z0, z1, z4, z5]
 refine W.mono (Nq hC hT (d := d + 1) hG2 q1 q2) ?_
 rintro ⟨v3, s3⟩ ⟨q3, X3⟩
 simp only at q3 X3
 have hG3 := X3.good hG2
 simp (maxSteps := 4000000) only [zt, ze, zB, zy, zd, z5]
 refine W.mono (TO hC hT (d := d) hG3) ?_
 rintro ⟨v4, s4⟩ ⟨q4, X4⟩
 simp only at q4 X4
 have hG4 := X4.good hG3
 simp (maxSteps := 4000000) only [zt, ze, zB, zy, zd, z5]
 refine W.mono (TQ hC hT (d := d) hG4) ?_
 rintro ⟨v5, s5⟩ ⟨q5, X5⟩
 simp only at q5 X5
 have hG5 := X5.good hG4
 simp (maxSteps := 4000000) only [zt, ze, zB, zl, zy, zd, zb, za, Nat.reduceEqDiff, z0, z1, z4, z5]
 refine W.mono (Nr hC hT (d := d + 1) hG5 q4 q5) ?_
 rintro ⟨v6, s6⟩ ⟨q6, X6⟩
 simp only at q6 X6
 have hG6 := X6.good hG5
 simp (maxSteps := 4000000) only [zt, ze, zB, zl, zy, zd, zb, za, Nat.reduceEqDiff, z0, z1, z4, z5]
 refine W.mono (Np hC hT (d := d + 1) hG6 q3 q6) ?_
 rintro ⟨v7, s7⟩ ⟨q7, X7⟩
 simp only at q7 X7
 have hG7 := X7.good hG6
 have X17 := X1.trans' (X2.trans' (X3.trans' (X4.trans' (X5.trans' (X6.trans' X7)))))
 simp (maxSteps := 4000000) only [zt, ze, zB, zl, zy, zd, zb, z1, z4, z5]
 refine W.mono (Gj hC (m := s.next + 1) X17.le hG7 q7.field (by omega) ⟨fun _ _ _ _ _ h _ => h, fun _ _ _ _ _ h _ => h⟩ hT.fmany hT.imany hT.fmany1 hT.imany1) ?_
 rintro ⟨v8, s8⟩ ⟨q8, X8⟩
 simp only at q8 X8
 have X18 := X17.trans' X8
 have g8 := X18.keep (h0 _) (by simp)
 have w8 := X18.wrs w0
 obtain ⟨f, a, b, g, a', b', D, rfl, k2, k3, k4⟩ := q8
 simp (maxSteps := 4000000) (maxDischargeDepth := 8) only [zI, zc, zg, zn, zt, ze, Zi, zi, Yl, z9, zx, zl, zd, zJ, zb, za, z0, z1, zo, zz, Cells.get, getN, Nat.zero_add, Nat.reduceAdd, ZA, zD, List.length_cons, List.length_nil, allOne, zQ, Bool.and_self, Bool.and_true, Nat.beq_eq, Nat.ble_eq, Nat.le_refl, if_true, DS.wrC, Cells.size, Cells.fillFrom, Cells.set, Zd, DS.upd_get_self, Option.map_some, DS.read, Cells.take, zZ, Nat.lt_add_one, Nat.succ_pos, g8, w8]
 have X9 : ∀ o, Ext [] s (s8.upd s.next o) := fun o => (Ext.new.trans' X18).trans (Ext.upd (F := [s.next]) (.inl (by simp))) (by simp)
 refine hQ _ ⟨⟨f, a, b, g, a', b', D, rfl, fun p hp => ?_, fun p hp => ?_, k4⟩, X9 _⟩
 · have := (k3 p hp).1
   simp (maxSteps := 4000000) (maxDischargeDepth := 8) only [z0, DS.upd_get_ne, k2 p hp, show ¬ p.1 = s.next by omega]
 · have := k3 p hp
   simp (maxSteps := 4000000) (maxDischargeDepth := 8) only [DS.upd_next]
   omega
theorem R3 {fv : Value} {n m : Nat} {Rep : Nat → DS → Value → List Unit → Prop} {Ok : List Unit → Prop} {enc : List Unit → List Int} (hG : s.Good) (hf : Zv E n m s fv Rep Ok enc) (hr : ∀ o S, Rep o S (.slice none 0 0) []) (hok : Ok []) (hlen : (enc []).length ≤ 1048576) :
 W (dcall E ((d + n + 1) + 1) (.func (.func 98) #[] #[]) [fv, .slice none 0 0] s) fun r => ∃ w, r.1 = .tuple ⟨[w, .int .i64 0]⟩ ∧ SlV r.2 1 w (Zy (enc [])) ∧ (∃ a, w = .slice a (enc []).length (enc []).length ∧ ∀ z, a = some z → z.spot = none) ∧ (∀ k, k ∈ blk w → s.next ≤ k ∧ k < r.2.next) ∧ Ext [] s r.2 := by
 obtain ⟨f, a, b, g, a', b', D, rfl, h2, h3, h4⟩ := hf
 refine Zz fun Q hQ => ?_
 rw [zF hT.ienc hT.fenc rfl]
 simp (maxSteps := 4000000) (maxDischargeDepth := 8) only [zr, zf, zA, zO, zc, zg, zn, zt, zv, ze, zu, Z3, ZF, zi, zM, Z8, ZG, zH, Zh, Z4, zB, zm, Zl, zl, zk, zd, zb, za, z0, zq, List.getElem?_cons_zero, List.getElem?_cons_succ, z1, z4, z5, zC, Cells.get, getN, zD, if_false, Bool.not_false, z3, zL, pp, pv, z7, Nat.add_zero, zw, zE, zK, zZ, Nat.add_assoc, Nat.reduceLT, Nat.lt_add_one, d98, hG]
 obtain ⟨S, hS⟩ : ∃ S : DS, S = (s.new (.cells (.list [.func (.func f) a b, .func (.func g) a' b']) false)).new (.cells (.list [.slice none 0 0, .int .i64 0]) false) := ⟨_, rfl⟩
 rw [← hS]
 have XS : Ext [] s S := by rw [hS]; exact Ext.new.trans' Ext.new
 have nS : S.next = s.next + 2 := by rw [hS]; simp (maxSteps := 4000000) (maxDischargeDepth := 8) only [Nat.reduceAdd, z7, Nat.add_assoc]
 have hGS := XS.good hG
 have S0 : S.get s.next = some (.cells (.list [.func (.func f) a b, .func (.func g) a' b']) false) := by rw [hS]; simp (maxSteps := 4000000) (maxDischargeDepth := 8) only [z7, zw, zE, zK, Nat.lt_add_one, hG]
 have S2 : S.get (s.next + 1) = some (.cells (.list [.slice none 0 0, .int .i64 0]) false) := by rw [hS]; simp (maxSteps := 4000000) (maxDischargeDepth := 8) only [z7, zw, zK, hG]
 have O : Qs S (s.next + 1) (.slice none 0 0) [] := ⟨S2, XS.wrs (hG _ (by omega)).2, by simpa [Zy] using SlC.nil, by simp [blk], by simp⟩
 rw [show d + (n + 1) = (d + 1) + n by omega]
 refine W.mono (h4 (d + 1) S (s.next + 1) _ [] _ [] (h2.keep XS (by simp)) (fun p hp => by have := h3 p hp; omega) O hGS (hr _ _) hok (by simpa using hlen)) ?_
 rintro ⟨v3, s3⟩ ⟨hv3, bv3, O3, X3, b3⟩
 simp only at hv3 O3 X3 b3
 subst hv3
 rw [List.nil_append] at O3
 have go3 := O3.go
 obtain ⟨w, hw1, hw2, hw3, hw4⟩ := Fc hC (d := d + n) O3.sl hT.fclip hT.iclip
 rw [show (d + n) + 1 = (d + 1) + n by omega] at hw1
 simp (maxSteps := 4000000) only [zr, zf, zA, zO, zI, zc, zg, zn, zt, zv, ze, zu, zi, zM, zT, Za, zH, Zh, zB, zm, zY, zP, zx, zl, zk, zy, zd, zb, za, Nat.reduceEqDiff, z0, z1, zo, zz, z4, z5, zC, Cells.get, getN, Nat.zero_add, if_true, Bool.not_true, Nat.add_zero, decide_true, go3, hw1]
 have X4 : Ext [] s s3 := XS.trans X3 (by simp [blk])
 refine hQ _ ⟨w, rfl, hw2, hw3, fun k hk => ?_, X4⟩
 rw [hw4] at hk
 refine ⟨?_, O3.sl.lt k hk⟩
 have := O3.up k hk
 omega
end
theorem Zv.of_get' {α : Type} {E : Env} {n m : Nat} {s s' : DS} {v : Value} {Rep : Nat → DS → Value → α → Prop} {Ok : α → Prop} {enc : α → List Int} (h : Zv E n m s v Rep Ok enc) (e : ∀ k, m ≤ k → s'.get k = s.get k) (hn : s.next ≤ s'.next) : Zv E n m s' v Rep Ok enc := by
 obtain ⟨f, a, b, g, a', b', D, h1, h2, h3, h4⟩ := h
 exact ⟨f, a, b, g, a', b', D, h1, fun p hp => (e _ (h3 p hp).1).trans (h2 p hp), fun p hp => ⟨(h3 p hp).1, Nat.lt_of_lt_of_le (h3 p hp).2 hn⟩, h4⟩
def Lb : DCode := (.region [pv 4 14])
def MM : DCode := (.block 1 (.seq (.region [pp 15 (.ld none (tm 1)), pp 16 (.nilck (tm 15)), pp 17 (.fadr 0 (tm 16)), pp 18 (.ld none (tm 17)), pv 19 4, pp 20 (.look .num (.agg #[.int .i64 0, .bool false, .int .i64 0, .int .i64 0, .bool false, .int .i64 0, .int .i64 0, .int .i64 0]) false (tm 18) (tm 19)), pp 5 (.alloc [.int .i64 0, .bool false, .int .i64 0, .int .i64 0, .bool false, .int .i64 0, .int .i64 0, .int .i64 0]), ⟨none, .st 8 (tm 5) (tm 20), none, [], false⟩]) (.seq (.region [pv 21 4, pp 22 (.fadr 0 (tm 5)), pp 23 (.ld none (tm 22)), pp 24 (.build [.int .i64 0, .int .i64 0] [(0, 1, .tmp 21), (1, 1, .tmp 23)]), pp 25 (.build [.int .i64 0, .int .i64 0, .bool false, .slice none 0 0] [(0, 2, .tmp 24)]), pp 6 (.alloc [.int .i64 0, .int .i64 0, .bool false, .slice none 0 0]), ⟨none, .st 4 (tm 6) (tm 25), none, [], false⟩]) (.seq (.seq (.region [pp 26 (.fadr 1 (tm 5)), pp 27 (.ld none (tm 26)), pp 28 (.fadr 2 (tm 6)), pp 29 (.fadr 0 (tm 28)), ⟨none, .st 1 (tm 29) (tm 27), none, [], false⟩]) (.seq (.region [pp 30 (.fadr 1 (tm 5)), pp 31 (.ld none (tm 30))]) (.cond (tm 31) (.region [pp 33 (.fadr 2 (tm 5)), pp 34 (.ld (some 6) (tm 33)), pp 35 (.call (.func 97) [.tmp 34]), pv 32 35, pp 36 (.ext (tm 32) 0), pp 37 (.ext (tm 32) 1), pp 38 (.fadr 2 (tm 6)), pp 39 (.fadr 1 (tm 38)), ⟨none, .st 1 (tm 39) (tm 36), none, [], false⟩]) (.skip)))) (.region [pp 40 (.ld none (tm 3)), pp 41 (.ld (some 4) (tm 6)), pp 42 (.bslice 1 4 [.int .i64 0, .int .i64 0, .bool false, .slice none 0 0] [(0, 4, .tmp 41)]), pp 43 (.bapp 48 4 (tm 40) (tm 42)), ⟨none, .st 1 (tm 3) (tm 43), none, [], false⟩])))))
def tbB : List Int := leB (([] : List Unit).length : Int) 2 ++ Xr (fun _ => []) ([] : List Unit)
section
variable {E : Env} (hC : CFns E) (hT : TbFns E) {s : DS} {d : Nat} {p m clock : Nat}
include hC hT
theorem Vi (gp : s.get p = some (.cells (.list [.map (some m)]) false)) : dcall E (d + 1) (.func (.func 49) #[] #[]) [.pointer (some ⟨p, 0, none⟩)] s = some (.bool true, s) := by
 rw [← XH, zF hT.imade hT.fmade rfl]
 simp (maxSteps := 4000000) only [zr, zf, zI, zc, zg, zn, zt, ZK, z8, ze, zu, ZF, zi, zM, zU, Z8, Za, zH, Zh, zm, Zl, zx, zl, zk, zd, zb, za, Nat.reduceEqDiff, z0, zq, List.getElem?_cons_zero, z1, zo, zz, zC, Cells.get, getN, if_true, reduceCtorEq, Bool.not_false, pp, pv, pw, pg, Nat.add_zero, d49, gp]
theorem TM (gp : s.get p = some (.cells (.list [.map (some m)]) false)) (gm : s.get m = some (.map [] clock)) (hG : s.Good) :
 W (dcall E (d + 8) (.func (.func 50) #[] #[]) [.pointer (some ⟨p, 0, none⟩)] s) fun r => SlV r.2 1 r.1 (Zy tbB) ∧ (∃ a, r.1 = .slice a tbB.length tbB.length ∧ ∀ z, a = some z → z.spot = none) ∧ (∀ k, k ∈ blk r.1 → s.next ≤ k ∧ k < r.2.next) ∧ Ext [] s r.2 := by
 have hlf := hC.lf
 have hpl := DS.get_lt' gp
 have hml := DS.get_lt' gm
 refine Zz fun Q hQ => ?_
 rw [zF hT.ipack hT.fpack rfl]
 obtain ⟨S1, hS1⟩ : ∃ S1 : DS, S1 = s.new (.cells (.list [.pointer (some ⟨p, 0, none⟩)]) false) := ⟨_, rfl⟩
 have X1 : Ext [] s S1 := by rw [hS1]; exact Ext.new
 have g1 : S1.get s.next = some (.cells (.list [.pointer (some ⟨p, 0, none⟩)]) false) := by rw [hS1]; exact DS.new_get_self hG
 have n1 : S1.next = s.next + 1 := by rw [hS1]; rfl
 have hm1 := Vi hC hT (d := d + 6) (X1.keep gp (by simp))
 have hG1 := X1.good hG
 have hcl : ∀ (dd : Nat) (S : DS) (a : Option Addr), dcall E (dd + 1) (.func (.func 96) #[] #[]) [.pointer a] S = some (.func (.func 132) #[] #[.pointer (some ⟨S.next, 0, none⟩)], S.new (.cells (.list [.pointer a]) false)) := fun dd S a => by
  rw [← XH, zF hT.icl hT.fcl rfl]
  simp (maxSteps := 4000000) only [zr, zf, zI, zc, zg, zn, zt, ze, zi, zM, Qr, Z4, zx, zl, zk, zd, zb, za, Nat.reduceEqDiff, z0, zq, List.getElem?_cons_zero, z1, zo, zz, z4, z5, Xb, pp, pv, d96]
 simp (maxSteps := 4000000) only [zr, zf, zA, zO, zc, zg, zn, zt, zv, ze, zu, zi, zM, Jn, Zh, Zp, Z4, zB, zm, zl, zk, zy, zd, zb, za, Nat.reduceEqDiff, z0, zq, List.getElem?_cons_zero, z1, z4, z5, zC, Cells.get, getN, Xb, Bool.not_true, pp, pv, d50, ← hS1, g1, hm1]
 obtain ⟨S2, hS2⟩ : ∃ S2 : DS, S2 = S1.new (.cells (.list [.slice none 0 0]) false) := ⟨_, rfl⟩
 rw [← hS2]
 have X2 : Ext [] S1 S2 := by rw [hS2]; exact Ext.new
 have g2 : S2.get S1.next = some (.cells (.list [.slice none 0 0]) false) := by rw [hS2]; exact DS.new_get_self hG1
 have n2 : S2.next = s.next + 2 := by rw [hS2]; show S1.next + 1 = _; omega
 have g12 := X2.keep g1 (by simp)
 have hG2 := X2.good hG1
 rw [n1] at g2 ⊢
 clear hS2
 simp (maxSteps := 4000000) only [Zq, zc, zg, zn, zt, ze, zu, zi, zB, zl, zy, zd, zb, z1, z4, z5, getN, g12, hcl]
 refine Nh (by simp (maxSteps := 4000000) only [zl, zb, z1]; rfl) ?_
 generalize hO : Kj _ _ _ _ = O
 obtain ⟨tt, hO2⟩ : ∃ tt, O = Kj tt [14] Lb MM := ⟨_, hO.symm⟩
 obtain ⟨S3, hS3⟩ : ∃ S3 : DS, S3 = S2.new (.cells (.list [.pointer (some ⟨p, 0, none⟩)]) false) := ⟨_, rfl⟩
 rw [← hS3]
 have X3 : Ext [] S2 S3 := by rw [hS3]; exact Ext.new
 have g3 : S3.get S2.next = some (.cells (.list [.pointer (some ⟨p, 0, none⟩)]) false) := by rw [hS3]; exact DS.new_get_self hG2
 have n3 : S3.next = s.next + 3 := by rw [hS3]; show S2.next + 1 = _; omega
 have hG3 := X3.good hG2
 clear hS3
 rw [n2] at g3 ⊢
 obtain ⟨U, hU⟩ : ∃ U : DS, U = (S3.new .dfr).new O := ⟨_, rfl⟩
 rw [← hU]
 have XU : Ext [] S3 U := by rw [hU]; exact Ext.new.trans' Ext.new
 have gy : U.get (s.next + 4) = some O := by rw [hU]; simp (maxSteps := 4000000) (maxDischargeDepth := 8) only [Nat.reduceAdd, z7, zw, zK, Nat.add_assoc, hG3, n3]
 have gd : U.get (s.next + 3) = some .dfr := by rw [hU]; simp (maxSteps := 4000000) (maxDischargeDepth := 8) only [Nat.reduceAdd, z7, zw, zE, zK, Nat.add_assoc, Nat.lt_add_one, hG3, n3]
 have nU : U.next = s.next + 5 := by rw [hU]; simp (maxSteps := 4000000) (maxDischargeDepth := 8) only [Nat.reduceAdd, z7, Nat.add_assoc, n3]
 clear hU
 have X03 : Ext [] s S3 := X1.trans' (X2.trans' X3)
 have X0U : Ext [] s U := X03.trans' XU
 have hGU := X0U.good hG
 have wU : ∀ k, s.next ≤ k → U.wr k = true := fun k hk => X0U.wrs (hG k hk).2
 have gpU := X0U.keep gp (by simp)
 have gmU := X0U.keep gm (by simp)
 have g3U := XU.keep g3 (by simp)
 have g2U := (X3.trans' XU).keep g2 (by simp)
 have hmU := Vi hC hT (d := d + 5) gpU
 have hk : ∀ dd, dcall E (dd + 1) (.func (.func 133) #[] #[]) [.map (some m)] U = some (.func (.func 169) #[] #[.chan (some U.next)], U.new (.cells (.list [.map (some m)]) false)) := fun dd => J0 hT.ikeys rfl
 obtain ⟨V, hV⟩ : ∃ V : DS, V = U.new (.cells (.list [.map (some m)]) false) := ⟨_, rfl⟩
 have XV : Ext [] U V := by rw [hV]; exact Ext.new
 have gV : V.get U.next = some (.cells (.list [.map (some m)]) false) := by rw [hV]; exact DS.new_get_self hGU
 have gmV := XV.keep gmU (by simp)
 have hs : ∀ dd, dcall E (dd + 1) (.func (.func 76) #[] #[]) [.func (.func 169) #[] #[.chan (some U.next)]] V = some (.slice none 0 0, V) := fun dd => J0 hT.isorted (by
  show Yw 169 [.func (.func 169) ⟨[]⟩ ⟨[.chan (some U.next)]⟩] V = _
  unfold Yw
  simp only [Nat.beq_refl, if_true, gV, Cells.get, getN, gmV]
  rfl)
 rw [← hV] at hk
 clear hV
 rw [n3]
 rw [Wq hT.icl1 hT.fcl1 rfl]
 simp (maxSteps := 4000000) only [zr, zf, zA, Zq, zO, zc, zg, zn, zt, zv, ze, zu, zi, zM, Jn, Za, zH, Yf, Zh, zB, zm, zl, zk, zy, zd, zb, za, Nat.reduceEqDiff, z0, zq, List.getElem?_cons_zero, List.getElem?_cons_succ, z1, z4, z5, zC, Cells.get, getN, Bool.not_true, List.nil_append, List.cons_append, pp, pv, Nat.add_zero, d132, g3U, gpU, hmU, hk, hs]
 refine Xi (fun n x => n = 0 ∧ x.s = V ∧ x.defers = [] ∧ x.t.get 14 = some (.int .i64 0) ∧ x.t.get 15 = some (.int .i64 0)) 0 (by omega) ⟨rfl, rfl, rfl, by simp (maxSteps := 4000000) only [zb, za, Nat.reduceEqDiff, z0]; rfl, by simp (maxSteps := 4000000) only [zb]⟩ ?_
 rintro n ⟨t, s4, ds⟩ hn ⟨hn0, hs4, hds, t14, t15⟩
 simp only at hs4 hds t14 t15
 subst hs4 hds
 simp (maxSteps := 4000000) only [zr, zf, zA, Xj, zc, Z9, Yb, zg, Ya, zn, zt, zv, ze, zu, zi, zT, zY, zP, ZC, zl, zd, zb, z1, zo, zz, if_true, decide_false, Int.reduceLT, t14, t15]
 have gy4 := XV.keep gy (by simp)
 have gd4 := XV.keep gd (by simp)
 have g24 := XV.keep g2U (by simp)
 have w4 : ∀ k, s.next ≤ k → s4.wr k = true := fun k hk => XV.wrs (wU k hk)
 rw [hO2] at gy4
 refine Dj (gy4.trans rfl) (.inl rfl) (w4 _ (by omega)) ?_
 generalize hOE : DObj.loop .exhausted .normal _ _ _ _ = OE
 have X5 : Ext [s.next + 3 + 1] s4 (s4.upd (s.next + 3 + 1) OE) := Ext.upd (.inl (by simp))
 obtain ⟨S5, hS5⟩ : ∃ S5 : DS, S5 = s4.upd (s.next + 3 + 1) OE := ⟨_, rfl⟩
 rw [← hS5] at X5 ⊢
 clear hS5
 have g5 := X5.keep g24 (by simp)
 have gd5 := X5.keep gd4 (by simp)
 have X05 : Ext [] s S5 := (X0U.trans' XV).trans X5 (by simp; omega)
 have hG5 := X05.good hG
 have n5 : s.next + 5 ≤ S5.next := by have := X5.le; have := XV.le; omega
 simp (maxSteps := 4000000) only [zr, zf, zc, Zo, W5, KO, YN, zu, zi, Zh, zB, zl, zy, zd, zb, za, Nat.reduceEqDiff, z0, z1, z5, zC, Cells.get, getN, List.nil_append, foot, g5]
 refine W.masked (hT.fr _) (TN hC hT (d := d + 4) (XW hG5 fun k hk => ?_)) ?_
 · exact ⟨by (simp only [hidden, shielded, noteAt, Z7, Bool.or_false, Bool.or_eq_false_iff, Bool.and_eq_false_iff, YB, YO, YW, true_and, and_true, true_or, or_true] <;> omega), by (simp only [hidden, shielded, noteAt, Z7, Bool.or_false, Bool.or_eq_false_iff, Bool.and_eq_false_iff, YB, YO, YW, true_and, and_true, true_or, or_true] <;> omega)⟩
 rintro v6 s6 ⟨q6, X6⟩ df
 simp only at q6 X6
 have hsame : ∀ k, k ≠ s.next + 1 → (YE S5 s6).get k = s6.get k := fun k hk => Qf (by (simp only [hidden, shielded, noteAt, Z7, Bool.or_false, Bool.or_eq_false_iff, Bool.and_eq_false_iff, YB, YO, YW, true_and, and_true, true_or, or_true] <;> omega)) X6
 have X6' := Ext.unmask' X6 df
 obtain ⟨S6, hS6⟩ : ∃ S6 : DS, S6 = YE S5 s6 := ⟨_, rfl⟩
 have n6 : s6.next = S6.next := by rw [hS6]; rfl
 have q6' : Zv E 4 S5.next S6 v6 _ _ _ := Zv.of_get' q6 (fun k hk => by rw [hS6]; exact hsame k (by have : S5.next ≤ k := hk; omega)) (by rw [n6]; exact Nat.le_refl _)
 rw [← hS6] at X6'
 have hG6 := X6'.good hG5
 simp (maxSteps := 4000000) only [W5, Xp, zB, zl, zy, zd, zb, za, Nat.reduceEqDiff, z0, z1, z4, z5, List.nil_append, List.cons_append, foot, ← hS6, n6]
 show W (dcall E (((d + 1) + 4 + 1) + 1) _ _ _) _
 refine W.mono (R3 hC hT (n := 4) (d := d + 1) hG6 q6' (fun _ _ => ⟨[], rfl, ⟨(fun _ h => nomatch h), (fun _ h => nomatch h)⟩, .inl ⟨rfl, rfl⟩, fun i r x h => by simp at h⟩) ⟨by simp, fun _ h => nomatch h⟩ (by decide)) ?_
 rintro ⟨v7, s7⟩ ⟨w, hv7, hw1, hw2, hw3, X7⟩
 simp only at hv7 hw1 hw3 X7
 subst hv7
 have gd7 := X7.keep (X6'.keep gd5 (by simp)) (by simp)
 have w7 := X7.wrs (X6'.wrs (X5.wrs (w4 (s.next + 3) (by omega))))
 simp (maxSteps := 4000000) only [zr, zf, zI, zc, zg, zn, zt, W5, ze, YN, zu, zi, zM, WS, zm, zl, zd, zb, za, Nat.reduceEqDiff, z0, z1, getN, List.nil_append, List.cons_append, foot]
 rw [GP gd7 w7]
 have hX : Ext [] s (s7.rid (s.next + 3)) := ((X05.trans' X6').trans' X7).trans (Ext.rid (F := [s.next + 3]) (.inl (by simp))) (by simp)
 have hle6 := X6'.le
 simp (maxSteps := 4000000) only [zi, zb, z1, zo, zz]
 refine hQ _ ⟨hw1.of fun k hk => ?_, hw2, fun k hk => ?_, hX⟩
 · have := (hw3 k hk).1
   exact DS.rid_get_ne (by omega)
 · have := hw3 k hk
   rw [DS.rid_next]
   omega
theorem tdig_ok (hB : Go.Dx.RpA.RR E) (gp : s.get p = some (.cells (.list [.map (some m)]) false)) (gm : s.get m = some (.map [] clock)) (hG : s.Good) :
 W (dcall E (d + 9) (.func (.func 29) #[] #[]) [.pointer (some ⟨p, 0, none⟩)] s) fun r => (∃ o, U .u8 32 o ∧ r.1 = .agg ⟨o⟩) ∧ Ext [] s r.2 := by
 have hlf := hC.lf
 refine Zz fun Q hQ => ?_
 rw [zF hT.idig hT.fdig rfl]
 obtain ⟨S1, hS1⟩ : ∃ S1 : DS, S1 = s.new (.cells (.list (z6 .u8 32)) false) := ⟨_, rfl⟩
 have hz : ([.int .u8 0, .int .u8 0, .int .u8 0, .int .u8 0, .int .u8 0, .int .u8 0, .int .u8 0, .int .u8 0, .int .u8 0, .int .u8 0, .int .u8 0, .int .u8 0, .int .u8 0, .int .u8 0, .int .u8 0, .int .u8 0, .int .u8 0, .int .u8 0, .int .u8 0, .int .u8 0, .int .u8 0, .int .u8 0, .int .u8 0, .int .u8 0, .int .u8 0, .int .u8 0, .int .u8 0, .int .u8 0, .int .u8 0, .int .u8 0, .int .u8 0, .int .u8 0] : List Value) = z6 .u8 32 := rfl
 have X1 : Ext [] s S1 := by rw [hS1]; exact Ext.new
 have hG1 := X1.good hG
 have gD1 : S1.get s.next = some (.cells (.list (z6 .u8 32)) false) := by rw [hS1]; exact DS.new_get_self hG
 have wD1 : S1.wr s.next = true := X1.wrs (hG _ (Nat.le_refl _)).2
 have hm1 := Vi hC hT (d := d + 7) (X1.keep gp (by simp))
 simp (maxSteps := 4000000) (maxDischargeDepth := 8) only [zr, zf, zA, zO, zc, zg, zn, zt, zv, ze, zu, zi, zM, Jn, Zp, zB, zm, zl, zy, zd, zb, za, z0, zq, List.getElem?_cons_zero, z1, z4, z5, Bool.not_true, pp, pv, zZ, Nat.succ_pos, d29, hz, ← hS1, hm1]
 refine W.mono (TM hC hT (d := d) (X1.keep gp (by simp)) (X1.keep gm (by simp)) hG1) ?_
 rintro ⟨v2, s2⟩ ⟨hv, hsh, hb, X2⟩
 simp only at hv hsh hb X2
 have hR := SlR.of hv hsh
 have hG2 := X2.good hG1
 have gD2 := X2.keep gD1 (by simp)
 have wD2 := X2.wrs wD1
 obtain ⟨a, hv2, _⟩ := hsh
 have hcell : v2.cells.toList = [v2] := by rw [hv2]; rfl
 simp (maxSteps := 4000000) (maxDischargeDepth := 8) only [zt, ze, Qb, zi, zB, zl, zy, zd, zb, z1, z4, z5, Nat.zero_add, List.length_cons, List.length_nil, Bool.and_self, Bool.and_eq_true, Nat.beq_eq, Nat.ble_eq, Nat.reduceLeDiff, Nat.le_refl, and_self, if_true, zL, List.take_zero, List.drop_succ_cons, List.nil_append, List.drop_nil, List.append_nil, Q4, repeatZ, Qb, Nat.mul_one, hG2, hcell]
 have gP : (s2.new (.cells (.list [v2]) false)).get s2.next = some (.cells (.list ([(v2, tbB)].map Prod.fst)) false) := DS.new_get_self hG2
 have hG3 : (s2.new (.cells (.list [v2]) false)).Good := DS.new_good hG2
 have hpl : tbB.length = 2 := rfl
 refine W.mono (Go.Dx.RpA.TT hB (d := d + 3) (b := s2.next) (ps := [(v2, tbB)]) hG3 gP ?_ ?_ ?_ ?_) ?_
 · intro q hq
   obtain rfl := List.mem_singleton.1 hq
   exact hR.keep (Ext.new (F := [])) (by simp)
 · show 1 < E.lf
   omega
 · show 1 ≤ 1000000
   omega
 · intro q hq
   obtain rfl := List.mem_singleton.1 hq
   show tbB.length < E.lf
   omega
 rintro ⟨v3, s3⟩ ⟨h3, X3⟩
 simp only at h3 X3
 subst h3
 have hO : U .u8 32 (QE [tbB]) := V1 _
 have X23 : Ext [] s2 s3 := Ext.new.trans' X3
 have gD3 := X23.keep gD2 (by simp)
 have wD3 := X23.wrs wD2
 show Di _ _ _ _ _ _ (.agg ⟨QE [tbB]⟩, s3)
 obtain ⟨o, ho⟩ : ∃ o, o = QE [tbB] := ⟨_, rfl⟩
 rw [← ho] at hO ⊢
 have hfill9 : (Cells.list (z6 .u8 32)).fillFrom 0 o = .list o := by
  rw [Yg _ _ _ (by rw [hO.1]; decide), hO.1]
  simp [z6]
 have hrd : (s3.upd s.next (.cells (.list o) false)).read s.next 0 32 = some o := by
  unfold DS.read
  simp only [DS.upd_get_self, gD3, Option.map_some]
  rw [ZL _ _ _ (by rw [hO.1]; decide)]
  simp only [List.drop_zero]
  rw [List.take_of_length_le (by rw [hO.1]; exact Nat.le_refl _)]
 simp (maxSteps := 4000000) (maxDischargeDepth := 8) only [zI, zc, zg, zn, zt, ze, Zi, zi, Yl, z9, zx, zl, zd, zJ, zb, za, z0, z1, zo, zz, Nat.zero_add, ZA, zD, Bool.and_true, Nat.beq_eq, Nat.ble_eq, Nat.le_refl, if_true, DS.wrC, Cells.size, zZ, Nat.reduceLT, Nat.lt_add_one, gD3, wD3, hO.1, hO.allOne, hfill9, (YP .u8 32).1, hrd]
 refine hQ _ ⟨⟨o, hO, rfl⟩, ?_⟩
 exact ((X1.trans' X2).trans' X23).trans (Ext.upd (F := [s.next]) (.inl (by simp))) (by simp)
end
end Go.Dx.RpB
