/- A part. -/
import Derived.Test.YtffgmngdgkpflaaGreatT1Rp
set_option linter.unusedVariables false
set_option linter.unusedSimpArgs false
set_option linter.unusedSectionVars false
set_option maxRecDepth 100000
set_option maxHeartbeats 4000000
namespace Go.Dx.TbA
open Go Go.Dx Go.Dx.Tab Go.Proofs.YtffgmngdgkpflaaGreat
theorem TabAt.mask {s : DS} {t m clock : Nat} {M : TRs} {nt : List YS} {haz : List Nat} (c : TabAt s t m M clock) (h1 : hidden nt haz t = false ∧ shielded nt haz t = false) (h2 : hidden nt haz m = false ∧ shielded nt haz m = false) : TabAt (Go.Dx.mask s nt haz) t m M clock :=
 ⟨(Yf h1.1).trans c.go, Jo c.wo h1.1 h1.2, (Yf h2.1).trans c.gm, Jo c.wm h2.1 h2.2, c.ne⟩
theorem QT.mask {s : DS} {q : Nat} {A : Int → Option TR} {nt : List YS} {haz : List Nat} (c : QT s q A) (h1 : hidden nt haz q = false ∧ shielded nt haz q = false) : QT (Go.Dx.mask s nt haz) q A :=
 ⟨(Yf h1.1).trans c.gq, Jo c.wq h1.1 h1.2⟩
def TI : DCode := (.region [pv 7 16])
def Vl : DCode := (.block 1 (.seq (.block 2 (.loop (.seq (.seq (.region [pp 17 (.ld none (tm 6)), pp 18 (.bin .lss (tm 17) (.const (.int .i64 64))), pv 19 18, pg 20 (.ld none (tm 3)) 19 true, pg 21 (.ld none (tm 6)) 19 true, pg 22 (.nilck (tm 20)) 19 true, pg 23 (.fadr 0 (tm 22)) 19 true, pg 24 (.ixA 64 9 (tm 23) (tm 21)) 19 true, pg 25 (.fadr 0 (tm 24)) 19 true, pg 26 (.ld none (tm 25)) 19 true, pg 27 (.un .not (tm 26)) 19 true, pp 28 (.pick (tm 19) (tm 27) (.const (.bool false)))]) (.cond (tm 28) (.skip) (.exit 2))) (.block 3 (.region [pp 29 (.ld none (tm 6)), pp 30 (.bin .add (tm 29) (.const (.int .i64 1))), ⟨none, .st 1 (tm 6) (tm 30), none, [], false⟩]))))) (.seq (.seq (.region [pp 31 (.ld none (tm 6)), pv 32 7, pp 33 (.bin .neq (tm 31) (tm 32))]) (.cond (tm 33) (.seq (.region [⟨none, .st 1 (tm 4) (.const (.bool false)), none, [], false⟩]) (.ret)) (.skip))) (.region [pp 34 (.ld none (tm 6)), pp 35 (.bin .add (tm 34) (.const (.int .i64 1))), ⟨none, .st 1 (tm 6) (tm 35), none, [], false⟩]))))
def nxA (A : Int → Option TR) : Nat → Nat
 | 0 => 0
 | i + 1 => (((XL A)[i]?).getD 0) + 1
theorem Fb (A : Int → Option TR) (i : Nat) : nxA A (i + 1) = (((XL A)[i]?).getD 0) + 1 := rfl
theorem Rk {A : Int → Option TR} {i n : Nat} (hb : i ≤ (XL A).length) (hn : n < 64) (h1 : nxA A i ≤ n) (h2 : ∀ a, (XL A)[i]? = some a → n < a) : QF A n = false := by
 refine NZ hb hn (fun a hi ha => ?_) h2
 obtain ⟨j, rfl⟩ : ∃ j, i = j + 1 := ⟨i - 1, by omega⟩
 rw [Nat.add_sub_cancel] at ha
 rw [Fb] at h1
 rw [ha] at h1
 simp only [z1] at h1
 omega
theorem HH {A : Int → Option TR} {i a : Nat} (ha : (XL A)[i]? = some a) : nxA A i ≤ a := by
 cases i with
 | zero => exact Nat.zero_le _
 | succ j =>
  have hl := (List.getElem?_eq_some_iff.1 ha).1
  have hj : (XL A)[j]? = some (XL A)[j] := List.getElem?_eq_getElem (by omega)
  have := D9 hj ha (Nat.lt_succ_self j)
  rw [Fb, hj]
  simp only [z1]
  omega
theorem Ek {A : Int → Option TR} {i a : Nat} (ha : (XL A)[i]? = some a) : nxA A (i + 1) = a + 1 := by
 rw [Fb, ha]
 rfl
structure LkJ (U : DS) (b0 : Nat) (tt : PT Value) (A : Int → Option TR) (ks : List Int) (i : Nat) (S : DS) : Prop where
 X : Ext [b0 + 3, b0 + 5] U S
 lp : S.get (b0 + 5) = some (.loop .ready .normal tt [16] TI Vl)
 kat : FS S (U.next + 1) ks
 gn : S.get (b0 + 3) = some (.cells (.list [.int .i64 (nxA A i : Int)]) false)
structure LkR (S0 : DS) (b0 t : Nat) (n : Nat) (y : St) : Prop where
 ex : ∃ i : Nat, n = 64 - i ∧ i ≤ 64 ∧ y.defers = [b0 + 4] ∧ (y.t.get 0 = some (.pointer (some ⟨t, 0, none⟩)) ∧ y.t.get 3 = some (.pointer (some ⟨b0, 0, none⟩)) ∧ y.t.get 4 = some (.pointer (some ⟨b0 + 1, 0, none⟩)) ∧ y.t.get 6 = some (.pointer (some ⟨b0 + 3, 0, none⟩)) ∧ y.t.get 8 = some (.int .i64 (i : Int))) ∧ Ext [] S0 y.s
theorem Pp {M : TRs} {clock : Nat} (hM : XJ M clock) (i : Nat) : D0 (Go.Dx.Tab.rowOf M (i : Int)) (((Go.Dx.Tab.rowOf M (i : Int)).map (·.num)).getD 0) = [.agg ⟨((rrC (Go.Dx.Tab.rowOf M (i : Int))).drop 3)⟩, .bool (((Go.Dx.Tab.rowOf M (i : Int)).map (·.done)).getD false)] := by
 cases h : Go.Dx.Tab.rowOf M (i : Int) with
 | none => rfl
 | some x =>
  obtain ⟨b, hb⟩ := Ql h
  have hr := hM.row _ hb
  simp only at hr
  simp only [D0, Option.map_some, z1, and_true, rrC, List.drop_succ_cons, List.drop_zero]
  cases hd : x.done with
  | true => rfl
  | false => rw [hr.rest hd]; rfl
theorem Po (x : Option TR) : ∃ (b : Bool) (n : Int) (w : Bool) (r : Rp), rrC x = [.bool b, .int .i64 n, .bool w, .int .i64 r.c, .int .i64 r.n, .bool r.rej, .int .i64 r.trap, .int .i64 r.v, .int .i64 r.gas] ∧ (x.map (·.num)).getD 0 = n ∧ (x.map (·.done)).getD false = w ∧ x.isSome = b := by
 cases x with
 | none => exact ⟨false, 0, false, Rp.zero, rfl, rfl, rfl, rfl⟩
 | some x => exact ⟨true, x.num, x.done, x.rep, rfl, rfl, rfl, rfl⟩
theorem KD : ∀ r : List Int, XE (u8s r) = some (r.map fun n => UInt8.ofNat n.toNat)
 | [] => rfl
 | n :: r => by
  show (match XE (u8s r) with | some l => some (UInt8.ofNat n.toNat :: l) | none => none) = _
  rw [KD r]; rfl
theorem DI (bs : List Int) : F5 .eql ⟨⟨bs.map fun n => UInt8.ofNat n.toNat⟩⟩ ⟨⟨bs.map fun n => UInt8.ofNat n.toNat⟩⟩ = some (.bool true) := by
 show some (Value.bool (WE _ _)) = _
 rw [Wo, beq_self_eq_true]
structure LkI (Sb : DS) (b0 q a lo : Nat) (tt : PT Value) (k : Int) (n : Nat) (y : St) : Prop where
 ex : ∃ j : Nat, n = a - j ∧ lo ≤ j ∧ j ≤ a ∧ y.defers = [] ∧ (y.t.get 3 = some (.pointer (some ⟨b0, 0, none⟩)) ∧ y.t.get 6 = some (.pointer (some ⟨b0 + 3, 0, none⟩)) ∧ y.t.get 7 = some (.int .i64 k)) ∧ y.s.get (b0 + 3) = some (.cells (.list [.int .i64 (j : Int)]) false) ∧ Ext [b0 + 3] Sb y.s
section
variable {E : Env} (hT : FQ E) (hP : LY E) {s : DS} {d : Nat} {t m clock q : Nat} {M : TRs}
include hT hP
theorem Lo (hM : XJ M clock) {U S : DS} {b0 i : Nat} {k : Int} {tt : PT Value} (hlf : 1000 ≤ E.lf) (hGS : S.Good) (nU : U.next = b0 + 6) (wU : ∀ k, b0 ≤ k → U.wr k = true) (hql : q < b0)
 (gp : U.get b0 = some (.cells (.list [.pointer (some ⟨q, 0, none⟩)]) false)) (cq : QT U q (Go.Dx.Tab.rowOf M))
 (t3 : tt.get 3 = some (.pointer (some ⟨b0, 0, none⟩))) (t6 : tt.get 6 = some (.pointer (some ⟨b0 + 3, 0, none⟩)))
 (hx : (ZM M)[i]? = some k) (hj : LkJ U b0 tt (Go.Dx.Tab.rowOf M) (ZM M) i S) :
 W (dcall E (d + 1) (.func (.yield (b0 + 5)) #[] #[]) [.int .i64 k] S) fun r => (r.1 = .bool true ∧ LkJ U b0 tt (Go.Dx.Tab.rowOf M) (ZM M) (i + 1) r.2) ∨ (r.1 = .bool false ∧ False) := by
 obtain ⟨X, gy, hks, gn⟩ := hj
 obtain ⟨a, ha, hka⟩ : ∃ a : Nat, (XL (Go.Dx.Tab.rowOf M))[i]? = some a ∧ (a : Int) = k := by
  rw [W3 hM, List.getElem?_map] at hx
  cases h : (XL (Go.Dx.Tab.rowOf M))[i]? with
  | none => rw [h] at hx; cases hx
  | some a => rw [h] at hx; exact ⟨a, rfl, Option.some.inj hx⟩
 have hil : i ≤ (XL (Go.Dx.Tab.rowOf M)).length := by have := (List.getElem?_eq_some_iff.1 ha).1; omega
 obtain ⟨ha64, hai⟩ := Le ha
 have hnle := HH ha
 have hwS : ∀ k, b0 ≤ k → S.wr k = true := fun k hk => X.wrs (wU k hk)
 have gpS := X.keep gp (by simp)
 have cqS := cq.keep X (by simp; omega)
 refine Zh fun Q hQ => ?_
 refine RU gy rfl ?_
 simp (maxSteps := 4000000) only [zg, zf, zl, zo, ze, zK, zi, zd, zb, z1, pv, Kt, JI, TI]
 refine Tx gy (hwS _ (by omega)) ?_
 obtain ⟨Sb, hSb⟩ : ∃ Sb : DS, Sb = S.upd (b0 + 5) (.loop .busy .normal tt [16] TI Vl) := ⟨_, rfl⟩
 have Xb : Ext [b0 + 5] S Sb := by rw [hSb]; exact Ext.upd (.inl (by simp))
 have gby : Sb.get (b0 + 5) = some (.loop .busy .normal tt [16] TI Vl) := by rw [hSb, DS.upd_get_self, gy]; rfl
 show WC _ _ _ Vl ⟨_, S.upd (b0 + 5) (.loop .busy .normal tt [16] TI Vl), []⟩ _
 rw [← hSb]
 clear hSb
 have bp := Xb.keep gpS (by simp)
 have bn := Xb.keep gn (by simp)
 have cb := cqS.keep Xb (by simp; omega)
 have wb : ∀ k, b0 ≤ k → Sb.wr k = true := fun k hk => Xb.wrs (hwS k hk)
 rw [← hka]
 simp (maxSteps := 4000000) only [zq, Zp, pp, pv, pg, Vl]
 refine Wc (LkI Sb b0 q a (nxA (Go.Dx.Tab.rowOf M) i) tt (a : Int)) (a - nxA (Go.Dx.Tab.rowOf M) i) (by omega) ⟨nxA (Go.Dx.Tab.rowOf M) i, rfl, Nat.le_refl _, hnle, rfl, by simp (maxSteps := 4000000) only [zb, zc, Nat.reduceEqDiff, z0, Bool.and_self, and_self, t3, t6], bn, .refl⟩ ?_
 rintro n ⟨t1, S2, ds⟩ hn ⟨j, rfl, hlo, hj, hds, ⟨u3, u6, u7⟩, gn2, X2⟩
 simp only at hds u3 u6 u7 gn2 X2
 subst hds
 have bp2 := X2.keep bp (by simp)
 have cb2 := cb.keep X2 (by simp; omega)
 have gq2 := cb2.gq
 have e1 : (j : Int) < 64 := by omega
 have hj64 : j < 64 := by omega
 have hg := J9 (Go.Dx.Tab.rowOf M) hj64 Ta
 rw [Nat.add_zero] at hg
 have w2 : S2.wr (b0 + 3) = true := X2.wrs (wb _ (by omega))
 have w1 : Zj .i64 ((j : Int) + 1) = ((j + 1 : Nat) : Int) := by rw [ZV (by omega) (by omega)]; omega
 have Xn : ∀ o, Ext [b0 + 3] S2 (S2.upd (b0 + 3) o) := fun o => Ext.upd (.inl (by simp))
 by_cases hja : j < a
 · have hz := Rk hil hj64 hlo (fun a' h => by rw [ha] at h; have := Option.some.inj h; omega)
   rw [hz] at hg
   simp (maxSteps := 4000000) only [zq, zg, zD, Zp, zO, za, Zk, zf, ZB, zl, zo, Zm, Za, zN, ze, zr, zU, zj, zK, zR, zV, YU, z8, zF, z9, Zx, zp, Zc, zX, zi, zm, zd, zE, zb, zc, Nat.reduceEqDiff, z0, z1, zG, Cells.get, getN, Nat.zero_add, Zd, ZK, List.length_cons, List.length_nil, zL, zH, Bool.and_self, Bool.and_true, Nat.beq_eq, Nat.ble_eq, Nat.blt_eq, Nat.le_refl, if_true, Bool.not_false, DS.wrC, Cells.size, Cells.fillFrom, Cells.set, Zb, Nat.add_zero, Zq, decide_true, QS, u3, u6, u7, gn2, bp2, gq2, e1, hj64, hg, w1, w2]
   exact ⟨a - (j + 1), by omega, ⟨j + 1, rfl, by omega, by omega, rfl, by simp (maxSteps := 4000000) only [zc, Nat.reduceEqDiff, z0, Bool.and_self, and_self, u3, u6, u7], by rw [DS.upd_get_self, gn2]; rfl, X2.trans' (Xn _)⟩⟩
 · obtain rfl : j = a := by omega
   rw [hai] at hg
   have hjj : ((j : Int) = (j : Int)) = True := eq_true rfl
   simp (maxSteps := 4000000) only [zq, zg, zD, zO, Yx, za, ZH, Zk, ZI, zf, ZN, zl, zo, Zm, Za, zt, ze, zr, zU, zj, zK, zR, zV, YU, z8, zF, z9, Zx, zp, Zc, zX, zi, zm, zd, zE, zb, zc, Nat.reduceEqDiff, z0, z1, zG, Cells.get, getN, Nat.zero_add, Zd, ZK, List.length_cons, List.length_nil, zL, zH, Bool.and_self, Bool.and_true, Nat.beq_eq, Nat.ble_eq, Nat.blt_eq, Nat.le_refl, if_true, Bool.not_true, DS.wrC, Cells.size, Cells.fillFrom, Cells.set, Zb, Nat.add_zero, Zq, decide_true, QS, u3, u6, u7, gn2, bp2, gq2, e1, hj64, hg, w1, w2, hjj]
   obtain ⟨S3, hS3⟩ : ∃ S3 : DS, S3 = S2.upd (b0 + 3) (.cells (.list [.int .i64 ((j + 1 : Nat) : Int)]) false) := ⟨_, rfl⟩
   have g3 : S3.get (b0 + 3) = some (.cells (.list [.int .i64 ((j + 1 : Nat) : Int)]) false) := by rw [hS3, DS.upd_get_self, gn2]; rfl
   have X3 : Ext [b0 + 3] S2 S3 := by rw [hS3]; exact Xn _
   rw [← hS3]
   clear hS3
   have gy3 := (X2.trans' X3).keep gby (by simp)
   refine FH gy3 (X3.wrs (X2.wrs (wb _ (by omega)))) ?_
   show Q (.bool true, S3.upd (b0 + 5) (.loop .ready .normal tt [16] TI Vl))
   have X4 : Ext [b0 + 5] S3 (S3.upd (b0 + 5) (.loop .ready .normal tt [16] TI Vl)) := Ext.upd (.inl (by simp))
   refine hQ _ (.inl ⟨rfl, ⟨(((X.trans' (Xb.weaken (by simp))).trans' (X2.weaken (by simp))).trans' (X3.weaken (by simp))).trans' (X4.weaken (by simp)), ?_, fun hne => ?_, ?_⟩⟩)
   · show (DS.upd _ _ _).get _ = _
     rw [DS.upd_get_self, gy3]; rfl
   · exact X4.keep (X3.keep (X2.keep (Xb.keep (hks hne) (by simp; omega)) (by simp; omega)) (by simp; omega)) (by simp; omega)
   · rw [Ek ha]
     exact X4.keep g3 (by simp)
variable (hC : KQ E) (hE : PX E) (hF : FP E) (hW : LX E) (hO : Gt E)
include hC hE hF hW hO
theorem Pb (hcode : E.fn 8 = some d8) (hintr : E.intr 8 = none) (hM : XJ M clock) (c : TabAt s t m M clock) (cr : QT s q (Go.Dx.Tab.rowOf M)) (hne1 : q ≠ t) (hne2 : q ≠ m) (hG : s.Good) :
 W (dcall E (d + 13) (.func (.func 8) #[] #[]) [.pointer (some ⟨t, 0, none⟩), .pointer (some ⟨q, 0, none⟩)] s) fun r => r.1 = .bool true ∧ Ext [] s r.2 := by
 have hlf := hC.lf
 have go := c.go
 have gm := c.gm
 have gq := cr.gq
 have htl := DS.get_lt' go
 have hml := DS.get_lt' gm
 have hql := DS.get_lt' gq
 refine Zh fun Q hQ => ?_
 rw [zP hintr hcode rfl]
 obtain ⟨S1, hS1⟩ : ∃ S1 : DS, S1 = (s.new (.cells (.list [.pointer (some ⟨q, 0, none⟩)]) false)).new (.cells (.list [.bool false]) false) := ⟨_, rfl⟩
 have X1 : Ext [] s S1 := by rw [hS1]; exact Ext.new.trans' Ext.new
 have G1 := X1.good hG
 have n1 : S1.next = s.next + 2 := by rw [hS1]; rfl
 have p3 : S1.get s.next = some (.cells (.list [.pointer (some ⟨q, 0, none⟩)]) false) := by rw [hS1]; simp (maxSteps := 4000000) (maxDischargeDepth := 8) only [zQ, zk, zw, zC, Nat.lt_add_one, hG]
 have p4 : S1.get (s.next + 1) = some (.cells (.list [.bool false]) false) := by rw [hS1]; simp (maxSteps := 4000000) (maxDischargeDepth := 8) only [zQ, zk, zC, hG]
 have hcl := FI hT hP (d := d + 11) (t := t) G1
 rw [n1] at hcl
 simp (maxSteps := 4000000) only [zq, zg, zD, zO, za, zf, zl, zo, zt, ze, YB, zj, zK, Xr, Zx, zW, ZA, zB, ZS, zi, zm, zA, zd, zb, zc, z0, zh, List.getElem?_cons_zero, List.getElem?_cons_succ, z1, z4, z5, Nat.zero_add, Zd, ZK, VD, List.length_cons, List.length_nil, zL, zH, Bool.and_self, Bool.and_true, Bool.and_eq_true, Nat.beq_eq, Nat.ble_eq, if_true, if_false, reduceCtorEq, Bool.not_false, z3, DS.wrC, Cells.size, Cells.fillFrom, Cells.set, pp, pv, pg, zQ, wrN, d8, ← hS1, hcl]
 clear hS1
 obtain ⟨S2, hS2⟩ : ∃ S2 : DS, S2 = ((S1.new (.cells (.list [.pointer (some ⟨t, 0, none⟩)]) false)).new (.cells (.list [.int .i64 0]) false)).upd (s.next + 3) (.cells (.list [.int .i64 0]) false) := ⟨_, rfl⟩
 have X2 : Ext [] S1 S2 := by
  rw [hS2]
  have a1 : Ext [] S1 ((S1.new (.cells (.list [.pointer (some ⟨t, 0, none⟩)]) false)).new (.cells (.list [.int .i64 0]) false)) := Ext.new.trans' Ext.new
  exact a1.trans (Ext.upd (F := [s.next + 3]) (.inl (by simp))) (by simp; omega)
 have G2 := X2.good G1
 have n2 : S2.next = s.next + 4 := by rw [hS2, DS.upd_next]; show S1.next + 2 = _; omega
 have p2 : S2.get (s.next + 2) = some (.cells (.list [.pointer (some ⟨t, 0, none⟩)]) false) := by rw [hS2]; simp (maxSteps := 4000000) (maxDischargeDepth := 8) only [z0, Nat.reduceAdd, DS.upd_get_ne, zQ, zk, zw, zC, zJ, Nat.add_assoc, Nat.lt_add_one, G1, n1]
 have p6 : S2.get (s.next + 3) = some (.cells (.list [.int .i64 0]) false) := by rw [hS2]; simp (maxSteps := 4000000) (maxDischargeDepth := 8) only [Nat.reduceAdd, DS.upd_get_self, Option.map_some, zQ, zk, zC, Nat.add_assoc, G1, n1]
 simp (maxSteps := 4000000) (maxDischargeDepth := 8) only [zq, zg, Zp, za, zf, zl, zo, ze, zU, zj, zK, zi, zd, zE, zb, zc, z0, z1, Nat.zero_add, Nat.reduceAdd, List.length_cons, List.length_nil, Bool.and_self, Nat.reduceLeDiff, Nat.le_refl, and_self, if_true, Zb, zQ, zk, zC, Zi, zJ, Nat.add_assoc, Nat.reduceLT, Nat.lt_add_one, Nat.add_le_add_iff_left, G1, n1, ← hS2]
 have c2 := (c.keep X1 (by simp) (by simp)).keep X2 (by simp) (by simp)
 have cr2 := (cr.keep X1 (by simp)).keep X2 (by simp)
 have p32 := X2.keep p3 (by simp)
 have p42 := X2.keep p4 (by simp)
 have X02 := X1.trans' X2
 clear hS2
 refine Hr (by simp (maxSteps := 4000000) only [zi, zb, z1]; rfl) ?_
 generalize hO' : Ff _ _ _ _ = O
 obtain ⟨tt, hO2, tt0, tt3, tt4, tt6⟩ : ∃ tt, O = Ff tt [16] TI Vl ∧ tt.get 0 = some (.pointer (some ⟨t, 0, none⟩)) ∧ tt.get 3 = some (.pointer (some ⟨s.next, 0, none⟩)) ∧ tt.get 4 = some (.pointer (some ⟨s.next + 1, 0, none⟩)) ∧ tt.get 6 = some (.pointer (some ⟨s.next + 3, 0, none⟩)) := ⟨_, hO'.symm, by simp (maxSteps := 4000000) only [zc, z0, zh, List.getElem?_cons_zero, reduceCtorEq], by simp (maxSteps := 4000000) only [zb, zc, Nat.reduceEqDiff, z0], by simp (maxSteps := 4000000) only [zb, zc, Nat.reduceEqDiff, z0], by simp (maxSteps := 4000000) only [zb, zc, Nat.reduceEqDiff, z0]⟩
 obtain ⟨U, hU⟩ : ∃ U : DS, U = (S2.new .dfr).new O := ⟨_, rfl⟩
 rw [← hU]
 have XU : Ext [] S2 U := by rw [hU]; exact Ext.new.trans' Ext.new
 have gy : U.get (s.next + 5) = some O := by rw [hU]; simp (maxSteps := 4000000) (maxDischargeDepth := 8) only [Nat.reduceAdd, zQ, zk, zC, Nat.add_assoc, G2, n2]
 have gd : U.get (s.next + 4) = some .dfr := by rw [hU]; simp (maxSteps := 4000000) (maxDischargeDepth := 8) only [Nat.reduceAdd, zQ, zk, zw, zC, Nat.add_assoc, Nat.lt_add_one, G2, n2]
 have nU : U.next = s.next + 6 := by rw [hU]; simp (maxSteps := 4000000) (maxDischargeDepth := 8) only [Nat.reduceAdd, zQ, Nat.add_assoc, n2]
 clear hU
 have X0U : Ext [] s U := X02.trans' XU
 have hGU := X0U.good hG
 have wU : ∀ k, s.next ≤ k → U.wr k = true := fun k hk => X0U.wrs (hG k hk).2
 have cU := c2.keep XU (by simp) (by simp)
 have crU := cr2.keep XU (by simp)
 have g3U := XU.keep p32 (by simp)
 have g4U := XU.keep p42 (by simp)
 have g2U := XU.keep p2 (by simp)
 have g6U := XU.keep p6 (by simp)
 rw [n2]
 refine W.mono (RL hT hP (d := d + 10) (J := LkJ U s.next tt (Go.Dx.Tab.rowOf M) (ZM M)) (Stop := fun _ => False) hM (by omega) hGU g2U cU.go cU.gm (fun i S hj => hj.kat) (fun i k S hx hj => ?_) (fun S X hGS hks hbig => ?_)) ?_
 · exact Lo hT hP hM (by omega) (hj.X.good hGU) nU wU (by omega) g3U crU tt3 tt6 hx hj
 · exact ⟨X.weaken (by simp), by rw [X.keep gy (by simp), hO2]; rfl, hks, X.keep g6U (by simp)⟩
 rintro ⟨v4, s4⟩ (hj | hf)
 case inr => exact absurd hf id
 obtain ⟨X4, gy4, _, gn4⟩ := hj
 simp only at X4 gy4 gn4
 have hkl : (ZM M).length = (XL (Go.Dx.Tab.rowOf M)).length := by rw [W3 hM, List.length_map]
 rw [hkl] at gn4
 obtain ⟨nE, hnE⟩ : ∃ nE, nE = nxA (Go.Dx.Tab.rowOf M) (XL (Go.Dx.Tab.rowOf M)).length := ⟨_, rfl⟩
 rw [← hnE] at gn4
 have hlast : ∀ i : Nat, i < 64 → nE ≤ i → QF (Go.Dx.Tab.rowOf M) i = false := fun i h1 h2 => Rk (Nat.le_refl _) h1 (by rw [← hnE]; exact h2) (fun a ha => by have := (List.getElem?_eq_some_iff.1 ha).1; omega)
 have gd4 := X4.keep gd (by simp)
 have w4 : ∀ k, s.next ≤ k → s4.wr k = true := fun k hk => X4.wrs (wU k hk)
 refine Tz (gy4.trans rfl) (.inl rfl) (w4 _ (by omega)) ?_
 generalize hOE : DObj.loop .exhausted .normal _ _ _ _ = OE
 have X5 : Ext [s.next + 4 + 1] s4 (s4.upd (s.next + 4 + 1) OE) := Ext.upd (.inl (by simp))
 obtain ⟨S5, hS5⟩ : ∃ S5 : DS, S5 = s4.upd (s.next + 4 + 1) OE := ⟨_, rfl⟩
 rw [← hS5] at X5 ⊢
 clear hS5
 have hX45 : Ext [s.next + 3, s.next + 5] U S5 := X4.trans' (X5.weaken (by simp))
 have h5a : ∀ k, k ≠ s.next + 3 → k ≠ s.next + 5 → k ∉ [s.next + 3, s.next + 5] := fun k h1 h2 => by simp; omega
 have c5 := cU.keep hX45 (h5a _ (by omega) (by omega)) (h5a _ (by omega) (by omega))
 have cr5 := crU.keep hX45 (h5a _ (by omega) (by omega))
 have q3 := hX45.keep g3U (h5a _ (by omega) (by omega))
 have q4 := hX45.keep g4U (h5a _ (by omega) (by omega))
 have qd := hX45.keep gd (h5a _ (by omega) (by omega))
 have q6 := X5.keep gn4 (by simp)
 have w5 : ∀ k, s.next ≤ k → S5.wr k = true := fun k hk => X5.wrs (w4 k hk)
 have X05 : Ext [] s S5 := X0U.trans hX45 (by simp)
 have G5 := X05.good hG
 have n5 : s.next + 6 ≤ S5.next := by have := hX45.le; omega
 simp (maxSteps := 4000000) only [zq, zg, Zp, za, Zk, zf, zl, zo, ze, zK, zm, zd]
 refine Wc (LkR S5 s.next t) 64 (by omega) ⟨0, rfl, by omega, rfl, by simp (maxSteps := 4000000) only [zb, zc, Nat.reduceEqDiff, z0, zh, List.getElem?_cons_zero, Bool.true_and, true_and, reduceCtorEq]; rfl, .refl⟩ ?_
 rintro n ⟨t1, S, ds⟩ hn ⟨i, rfl, hi, hds, ⟨t0, t3, t4, t6, t8⟩, X6⟩
 simp only at hds t0 t3 t4 t6 t8 X6
 subst hds
 have G6 := X6.good G5
 have c6 := c5.keep X6 (by simp) (by simp)
 have cr6 := cr5.keep X6 (by simp)
 have r3 := X6.keep q3 (by simp)
 have r4 := X6.keep q4 (by simp)
 have r6 := X6.keep q6 (by simp)
 have rd := X6.keep qd (by simp)
 have gq6 := cr6.gq
 have le6 := X6.le
 by_cases ci : i < 64
 · have e1 : (i : Int) < 64 := by omega
   have w1 : Zj .i64 ((i : Int) + 1) = ((i + 1 : Nat) : Int) := by rw [ZV (by omega) (by omega)]; omega
   obtain ⟨b, nn, wd, rr, hrr, hnn, hwd, hbb⟩ := Po (Go.Dx.Tab.rowOf M (i : Int))
   have h0 := J9 (Go.Dx.Tab.rowOf M) ci (j := 0) (by rw [hrr]; rfl)
   have h1 := J9 (Go.Dx.Tab.rowOf M) ci (j := 1) (by rw [hrr]; rfl)
   have h2 := J9 (Go.Dx.Tab.rowOf M) ci (j := 2) (by rw [hrr]; rfl)
   rw [Nat.add_zero] at h0
   have htk := Dr (Go.Dx.Tab.rowOf M) ci (j := 3) (n := 6) (by omega)
   rw [hrr] at htk
   have hrep := Pp hM i
   rw [hnn, hrr, hwd] at hrep
   simp only [List.drop_succ_cons, List.drop_zero] at hrep
   simp (maxSteps := 4000000) only [zq, zg, zD, Zp, zO, za, zf, zl, zo, zN, ze, zr, zj, zK, zV, z8, zF, z9, zB, zp, Zc, zX, zi, zm, zA, zd, zb, zc, Nat.reduceEqDiff, z0, z1, z4, z5, zG, Cells.get, getN, Nat.zero_add, Nat.blt_eq, if_true, reduceCtorEq, Nat.add_zero, Zq, decide_true, QS, t0, t3, t4, t6, t8, e1, r3, gq6, ci, h1]
   refine W.mono (R9 hT (d := d + 10) c6 G6 (i : Int) nn) ?_
   rintro ⟨v7, S7⟩ ⟨h7, X7⟩
   simp only at h7 X7
   rw [hrep] at h7
   subst h7
   have G7 := X7.good G6
   obtain ⟨S8, hS8⟩ : ∃ S8 : DS, S8 = (S7.new (.cells (.list [.int .i64 0, .int .i64 0, .bool false, .int .i64 0, .int .i64 0, .int .i64 0]) false)).upd S7.next (.cells (.list [.int .i64 rr.c, .int .i64 rr.n, .bool rr.rej, .int .i64 rr.trap, .int .i64 rr.v, .int .i64 rr.gas]) false) := ⟨_, rfl⟩
   have X8 : Ext [] S7 S8 := by
    rw [hS8]
    exact (Ext.new (F := [])).trans (Ext.upd (F := [S7.next]) (.inl (by simp))) (by simp)
   have g8 : S8.get S7.next = some (.cells (.list [.int .i64 rr.c, .int .i64 rr.n, .bool rr.rej, .int .i64 rr.trap, .int .i64 rr.v, .int .i64 rr.gas]) false) := by rw [hS8, DS.upd_get_self, DS.new_get_self G7]; rfl
   have X68 := X7.trans' X8
   have r38 := X68.keep r3 (by simp)
   have r68 := X68.keep r6 (by simp)
   have gq8 := X68.keep gq6 (by simp)
   have G8 := X8.good G7
   have le7 := X7.le
   have hgeq : ((nE : Int) ≤ (i : Int)) = (nE ≤ i) := propext (by omega)
   have c8 := c6.keep X68 (by simp) (by simp)
   have cr8 := cr6.keep X68 (by simp)
   have lS7 := DS.get_lt' g8
   have hoo1 : XO 5000 (.one .bool) (.bool wd) (.bool wd) = some true := by simp [XO, ZS]
   have hoo2 : XO 5000 (.struct [(0, 1, .one .int), (1, 1, .one .int), (2, 1, .one .bool), (3, 1, .one .int), (4, 1, .one .int), (5, 1, .one .int)]) (.agg ⟨[.int .i64 rr.c, .int .i64 rr.n, .bool rr.rej, .int .i64 rr.trap, .int .i64 rr.v, .int .i64 rr.gas]⟩) (.agg ⟨[.int .i64 rr.c, .int .i64 rr.n, .bool rr.rej, .int .i64 rr.trap, .int .i64 rr.v, .int .i64 rr.gas]⟩) = some true := by
    simp [XO, Xz, ZS, getN]
   have hnn' : (nn = nn) = True := eq_true rfl
   by_cases hge : nE ≤ i
   · have hb0 : b = false := by rw [← hbb]; exact hlast i ci hge
     subst hb0
     have hge' : ((nE : Int) ≤ (i : Int)) = True := eq_true (by omega)
     simp (maxSteps := 4000000) (maxDischargeDepth := 8) only [zq, zg, za, zf, zl, zo, Yp, Zm, WL, Za, zY, ze, Zn, zr, zU, zj, zK, zR, zV, z8, zF, YJ, z9, Zx, zW, zB, zp, Zc, zX, zi, zm, zA, zd, zE, zb, zc, z0, z1, z4, z5, zG, Cells.get, getN, Nat.zero_add, Nat.reduceAdd, Zd, zx, List.length_cons, List.length_nil, zL, zH, Bool.and_self, Bool.and_true, Nat.beq_eq, Nat.ble_eq, Nat.blt_eq, Nat.le_refl, if_true, DS.wrC, Cells.size, Cells.fillFrom, Cells.set, Zb, List.nil_append, List.cons_append, wrN, Nat.add_zero, Zq, decide_true, foot, QS, zk, zC, Zi, zJ, ZF, Nat.reduceLT, Nat.lt_add_one, Nat.succ_pos, t0, t3, t4, t6, t8, G7, ← hS8, r38, r68, hge', gq8, h0, h1, ci]
     refine W.masked (hE.fr _) (CB hT (d := d + 10) (c8.mask ⟨by (simp only [hidden, shielded, noteAt, ZD, Bool.or_false, Bool.or_eq_false_iff, Bool.and_eq_false_iff, ZW, Yb, ZZ, true_and, and_true, true_or, or_true] <;> omega), by (simp only [hidden, shielded, noteAt, ZD, Bool.or_false, Bool.or_eq_false_iff, Bool.and_eq_false_iff, ZW, Yb, ZZ, true_and, and_true, true_or, or_true] <;> omega)⟩ ⟨by (simp only [hidden, shielded, noteAt, ZD, Bool.or_false, Bool.or_eq_false_iff, Bool.and_eq_false_iff, ZW, Yb, ZZ, true_and, and_true, true_or, or_true] <;> omega), by (simp only [hidden, shielded, noteAt, ZD, Bool.or_false, Bool.or_eq_false_iff, Bool.and_eq_false_iff, ZW, Yb, ZZ, true_and, and_true, true_or, or_true] <;> omega)⟩) (YL G8 fun k hk => ⟨by (simp only [hidden, shielded, noteAt, ZD, Bool.or_false, Bool.or_eq_false_iff, Bool.and_eq_false_iff, ZW, Yb, ZZ, true_and, and_true, true_or, or_true] <;> omega), by (simp only [hidden, shielded, noteAt, ZD, Bool.or_false, Bool.or_eq_false_iff, Bool.and_eq_false_iff, ZW, Yb, ZZ, true_and, and_true, true_or, or_true] <;> omega)⟩) (i : Int)) ?_
     rintro v9 s9 ⟨h9, X9⟩ df
     simp only at h9 X9
     rw [hnn] at h9
     subst h9
     have X9' := Ext.unmask' X9 df
     obtain ⟨S9, hS9⟩ : ∃ S9 : DS, S9 = Ys S8 s9 := ⟨_, rfl⟩
     have n9 : s9.next = S9.next := by rw [hS9]; rfl
     rw [← hS9] at X9'
     have r39 := X9'.keep r38 (by simp)
     have gq9 := X9'.keep gq8 (by simp)
     have g9 := X9'.keep g8 (by simp)
     have hl1 : ldA 6 (.pointer (some ⟨S7.next, 0, none⟩)) S9 = some (.agg ⟨[.int .i64 rr.c, .int .i64 rr.n, .bool rr.rej, .int .i64 rr.trap, .int .i64 rr.v, .int .i64 rr.gas]⟩) := by
      simp only [ldA, DS.read, g9]
      rfl
     have hl2 : ldA 6 (.pointer (some ⟨q, i * 9 + 3, none⟩)) S9 = some (.agg ⟨[.int .i64 rr.c, .int .i64 rr.n, .bool rr.rej, .int .i64 rr.trap, .int .i64 rr.v, .int .i64 rr.gas]⟩) := by
      simp only [ldA, DS.read, gq9]
      rw [htk]
      rfl
     simp (maxSteps := 4000000) (maxDischargeDepth := 8) only [zg, zD, zO, za, Zk, zf, ZB, zl, zo, Yp, Zm, zY, zt, ze, Zn, Yd, zr, zj, zK, zR, zV, z8, zF, z9, zp, Zc, zX, zi, zm, zd, zb, zc, z0, z1, zG, Cells.get, getN, Nat.zero_add, Nat.blt_eq, if_true, if_false, Bool.not_true, z3, List.nil_append, List.cons_append, Yh, Nat.add_zero, Zq, decide_true, foot, QS, zJ, ZF, Nat.reduceLT, Nat.lt_add_one, t0, t3, t4, t6, t8, ← hS9, n9, hnn', r39, gq9, h2, ci, HX, hoo1, hoo2, hl1, hl2, w1]
     exact ⟨64 - (i + 1), by omega, ⟨i + 1, rfl, by omega, rfl, by simp (maxSteps := 4000000) only [zb, zc, Nat.reduceEqDiff, z0, Bool.and_self, and_self, reduceCtorEq, t0, t3, t4, t6, t8], X6.trans' (X68.trans' X9')⟩⟩
   · have hge' : ((nE : Int) ≤ (i : Int)) = False := eq_false (by omega)
     simp (maxSteps := 4000000) (maxDischargeDepth := 8) only [zq, zg, za, zf, zl, zo, Yp, Zm, WL, Zv, zY, ze, Zn, zr, zU, zj, zK, zR, zV, z8, zF, YJ, z9, Zx, zW, zB, zp, Zc, zX, zi, zm, zA, zd, zE, zb, zc, z0, z1, z4, z5, zG, Cells.get, getN, Nat.zero_add, Nat.reduceAdd, Zd, zx, List.length_cons, List.length_nil, zL, zH, Bool.and_self, Bool.and_true, Nat.beq_eq, Nat.ble_eq, Nat.blt_eq, Nat.le_refl, if_true, if_false, z3, DS.wrC, Cells.size, Cells.fillFrom, Cells.set, Zb, List.nil_append, List.cons_append, wrN, Nat.add_zero, Zq, decide_false, foot, QS, zk, zC, Zi, zJ, ZF, Nat.reduceLT, Nat.lt_add_one, Nat.succ_pos, t0, t3, t4, t6, t8, G7, ← hS8, r38, r68, hge', gq8, h0, h1, ci]
     refine W.masked (hE.fr _) (CB hT (d := d + 10) (c8.mask ⟨by (simp only [hidden, shielded, noteAt, ZD, Bool.or_false, Bool.or_eq_false_iff, Bool.and_eq_false_iff, ZW, Yb, ZZ, true_and, and_true, true_or, or_true] <;> omega), by (simp only [hidden, shielded, noteAt, ZD, Bool.or_false, Bool.or_eq_false_iff, Bool.and_eq_false_iff, ZW, Yb, ZZ, true_and, and_true, true_or, or_true] <;> omega)⟩ ⟨by (simp only [hidden, shielded, noteAt, ZD, Bool.or_false, Bool.or_eq_false_iff, Bool.and_eq_false_iff, ZW, Yb, ZZ, true_and, and_true, true_or, or_true] <;> omega), by (simp only [hidden, shielded, noteAt, ZD, Bool.or_false, Bool.or_eq_false_iff, Bool.and_eq_false_iff, ZW, Yb, ZZ, true_and, and_true, true_or, or_true] <;> omega)⟩) (YL G8 fun k hk => ⟨by (simp only [hidden, shielded, noteAt, ZD, Bool.or_false, Bool.or_eq_false_iff, Bool.and_eq_false_iff, ZW, Yb, ZZ, true_and, and_true, true_or, or_true] <;> omega), by (simp only [hidden, shielded, noteAt, ZD, Bool.or_false, Bool.or_eq_false_iff, Bool.and_eq_false_iff, ZW, Yb, ZZ, true_and, and_true, true_or, or_true] <;> omega)⟩) (i : Int)) ?_
     rintro v9 s9 ⟨h9, X9⟩ df
     simp only at h9 X9
     rw [hnn] at h9
     subst h9
     have X9' := Ext.unmask' X9 df
     obtain ⟨S9, hS9⟩ : ∃ S9 : DS, S9 = Ys S8 s9 := ⟨_, rfl⟩
     have n9 : s9.next = S9.next := by rw [hS9]; rfl
     rw [← hS9] at X9'
     have r39 := X9'.keep r38 (by simp)
     have gq9 := X9'.keep gq8 (by simp)
     have g9 := X9'.keep g8 (by simp)
     have hl1 : ldA 6 (.pointer (some ⟨S7.next, 0, none⟩)) S9 = some (.agg ⟨[.int .i64 rr.c, .int .i64 rr.n, .bool rr.rej, .int .i64 rr.trap, .int .i64 rr.v, .int .i64 rr.gas]⟩) := by
      simp only [ldA, DS.read, g9]
      rfl
     have hl2 : ldA 6 (.pointer (some ⟨q, i * 9 + 3, none⟩)) S9 = some (.agg ⟨[.int .i64 rr.c, .int .i64 rr.n, .bool rr.rej, .int .i64 rr.trap, .int .i64 rr.v, .int .i64 rr.gas]⟩) := by
      simp only [ldA, DS.read, gq9]
      rw [htk]
      rfl
     simp (maxSteps := 4000000) (maxDischargeDepth := 8) only [zg, zD, zO, za, Zk, zf, ZB, zl, zo, Yp, Zm, zY, zt, ze, Zn, Yd, zr, zj, zK, zR, zV, z8, zF, z9, zp, Zc, zX, zi, zm, zd, zb, zc, z0, z1, zG, Cells.get, getN, Nat.zero_add, Nat.blt_eq, if_true, if_false, Bool.not_true, z3, List.nil_append, List.cons_append, Yh, Nat.add_zero, Zq, decide_true, foot, QS, zJ, ZF, Nat.reduceLT, Nat.lt_add_one, t0, t3, t4, t6, t8, ← hS9, n9, hnn', r39, gq9, h2, ci, HX, hoo1, hoo2, hl1, hl2, w1]
     exact ⟨64 - (i + 1), by omega, ⟨i + 1, rfl, by omega, rfl, by simp (maxSteps := 4000000) only [zb, zc, Nat.reduceEqDiff, z0, Bool.and_self, and_self, reduceCtorEq, t0, t3, t4, t6, t8], X6.trans' (X68.trans' X9')⟩⟩
 · obtain rfl : i = 64 := by omega
   have e1 : ¬ (((64 : Nat) : Int) < 64) := by omega
   simp (maxSteps := 4000000) only [zq, zg, zD, Yx, za, ZH, ZI, zf, ZN, zl, zo, Yp, WL, zt, ze, Zn, zr, zj, zK, zV, z9, zB, Zc, zX, zi, zm, zA, zd, zb, zc, Nat.reduceEqDiff, z0, z1, z4, z5, zG, Cells.get, getN, if_true, reduceCtorEq, List.nil_append, List.cons_append, decide_false, foot, t0, t3, t4, t6, t8, e1, r3]
   refine W.masked (hE.fr _) (Dk hC hT hE hF hW hP (d := d) hM (c6.mask ⟨by (simp only [hidden, shielded, noteAt, ZD, Bool.or_false, Bool.or_eq_false_iff, Bool.and_eq_false_iff, ZW, Yb, ZZ, true_and, and_true, true_or, or_true] <;> omega), by (simp only [hidden, shielded, noteAt, ZD, Bool.or_false, Bool.or_eq_false_iff, Bool.and_eq_false_iff, ZW, Yb, ZZ, true_and, and_true, true_or, or_true] <;> omega)⟩ ⟨by (simp only [hidden, shielded, noteAt, ZD, Bool.or_false, Bool.or_eq_false_iff, Bool.and_eq_false_iff, ZW, Yb, ZZ, true_and, and_true, true_or, or_true] <;> omega), by (simp only [hidden, shielded, noteAt, ZD, Bool.or_false, Bool.or_eq_false_iff, Bool.and_eq_false_iff, ZW, Yb, ZZ, true_and, and_true, true_or, or_true] <;> omega)⟩) (YL G6 fun k hk => ⟨by (simp only [hidden, shielded, noteAt, ZD, Bool.or_false, Bool.or_eq_false_iff, Bool.and_eq_false_iff, ZW, Yb, ZZ, true_and, and_true, true_or, or_true] <;> omega), by (simp only [hidden, shielded, noteAt, ZD, Bool.or_false, Bool.or_eq_false_iff, Bool.and_eq_false_iff, ZW, Yb, ZZ, true_and, and_true, true_or, or_true] <;> omega)⟩)) ?_
   rintro v7 s7 ⟨h7, hsh7, hb7, X7⟩ df
   simp only at h7 hsh7 hb7 X7
   have X7' := Ext.unmask' X7 df
   obtain ⟨S7, hS7⟩ : ∃ S7 : DS, S7 = Ys S s7 := ⟨_, rfl⟩
   have n7 : s7.next = S7.next := by rw [hS7]; rfl
   rw [← hS7] at X7'
   obtain ⟨bs, hbs⟩ : ∃ bs, bs = Qc (Go.Dx.Tab.rowOf M) := ⟨_, rfl⟩
   have hne : bs ≠ [] := fun h => by
    have h1 : (Qc (Go.Dx.Tab.rowOf M)).length = 0 := by rw [← hbs, h]; rfl
    unfold Qc KJ at h1
    rw [List.length_append, ZP] at h1
    omega
   rw [← hbs] at h7 hsh7
   have htb := KD bs
   have hTE := DI bs
   rcases SlR.of h7 hsh7 with ⟨_, h0⟩ | ⟨b8, o8, sp8, cc8, rfl, _, _, hrd8⟩
   · exact absurd h0 hne
   have hb8 := hb7 b8 (by simp [blk])
   have hb8l : S.next ≤ b8 := hb8.1
   have hrd9 : S7.read b8 o8 bs.length = some (u8s bs) := by
    rw [hS7]
    unfold DS.read at hrd8 ⊢
    rw [XV (by (simp only [hidden, shielded, noteAt, ZD, Bool.or_false, Bool.or_eq_false_iff, Bool.and_eq_false_iff, ZW, Yb, ZZ, true_and, and_true, true_or, or_true] <;> omega)) X7]
    exact hrd8
   simp (maxSteps := 4000000) (maxDischargeDepth := 8) only [Yp, WL, Zn, Yd, zr, zj, zB, zZ, zi, zA, zd, zb, zc, z0, z1, z4, z5, List.nil_append, List.cons_append, foot, Wb, ZF, Nat.reduceLT, Nat.lt_add_one, ← hS7, n7, hrd9, htb]
   have G7 := X7'.good G6
   have c7 := c6.keep X7' (by simp) (by simp)
   have cr7 := cr6.keep X7' (by simp)
   have le7 := X7'.le
   have hA : ∀ (i : Nat) (x : TR), Go.Dx.Tab.rowOf M (i : Int) = some x → TO x ∧ x.key = (i : Int) := fun i x h => by
    obtain ⟨b, hb⟩ := Ql h
    exact ⟨hM.row _ hb, Q7 h⟩
   refine W.masked (hE.fr _) (Pm hO (d := d + 5) (cr7.mask ⟨by (simp only [hidden, shielded, noteAt, ZD, Bool.or_false, Bool.or_eq_false_iff, Bool.and_eq_false_iff, ZW, Yb, ZZ, true_and, and_true, true_or, or_true] <;> omega), by (simp only [hidden, shielded, noteAt, ZD, Bool.or_false, Bool.or_eq_false_iff, Bool.and_eq_false_iff, ZW, Yb, ZZ, true_and, and_true, true_or, or_true] <;> omega)⟩) hA (YL G7 fun k hk => ⟨?_, by (simp only [hidden, shielded, noteAt, ZD, Bool.or_false, Bool.or_eq_false_iff, Bool.and_eq_false_iff, ZW, Yb, ZZ, true_and, and_true, true_or, or_true] <;> omega)⟩)) ?_
   · have hk : S7.next ≤ k := hk
     have : b8 < S7.next := by rw [← n7]; exact hb8.2
     (simp only [hidden, shielded, noteAt, ZD, Bool.or_false, Bool.or_eq_false_iff, Bool.and_eq_false_iff, ZW, Yb, ZZ, true_and, and_true, true_or, or_true] <;> omega)
   rintro v9 s9 ⟨h9, X9, hb9⟩ df9
   simp only at h9 X9 hb9
   rw [← hbs] at h9
   have X9' := Ext.unmask' X9 df9
   obtain ⟨S9, hS9⟩ : ∃ S9 : DS, S9 = Ys S7 s9 := ⟨_, rfl⟩
   have n9 : s9.next = S9.next := by rw [hS9]; rfl
   rw [← hS9] at X9'
   rcases SlX.toR' h9 with ⟨_, h0⟩ | ⟨b10, o10, sp10, cc10, rfl, _, _, hrd10⟩
   · exact absurd h0 hne
   have hb10 := hb9 b10 (by simp [blk])
   have hb10l : S7.next ≤ b10 := hb10
   have hb8u : b8 < S7.next := by rw [← n7]; exact hb8.2
   have hrd11 : S9.read b10 o10 bs.length = some (u8s bs) := by
    rw [hS9]
    unfold DS.read at hrd10 ⊢
    rw [XV (by (simp only [hidden, shielded, noteAt, ZD, Bool.or_false, Bool.or_eq_false_iff, Bool.and_eq_false_iff, ZW, Yb, ZZ, true_and, and_true, true_or, or_true] <;> omega)) X9]
    exact hrd10
   have r49 := X9'.keep (X7'.keep r4 (by simp)) (by simp)
   have rd9 := X9'.keep (X7'.keep rd (by simp)) (by simp)
   have w9 : ∀ j, s.next ≤ j → S9.wr j = true := fun j hj => X9'.wrs (X7'.wrs (X6.wrs (w5 j hj)))
   simp (maxSteps := 4000000) (maxDischargeDepth := 8) only [zI, za, zf, zl, Yp, Zn, Yd, zr, zU, zj, zV, Zx, Zc, zZ, zi, zd, zE, zb, zc, z0, z1, Nat.zero_add, Zd, ZO, List.length_cons, List.length_nil, zL, zH, Bool.and_self, Bool.and_true, Nat.beq_eq, Nat.ble_eq, Nat.le_refl, if_true, DS.wrC, Cells.size, Cells.fillFrom, Cells.set, Zb, List.nil_append, List.cons_append, DS.upd_next, foot, Wb, zJ, Nat.reduceLT, ← hS9, n9, hrd11, htb, hTE, t4, r49, w9 (s.next + 1) (Nat.le_succ _)]
   rw [DR (by rw [DS.upd_get_ne (by omega)]; exact rd9) (by rw [DS.upd_wr]; exact w9 _ (by omega))]
   have m4 : ((S9.upd (s.next + 1) (.cells (.list [.bool true]) false)).rid (s.next + 4)).get (s.next + 1) = some (.cells (.list [.bool true]) false) := by
    rw [DS.rid_get_ne (by omega), DS.upd_get_self, r49]; rfl
   simp (maxSteps := 4000000) only [zj, zZ, zi, zc, Nat.reduceEqDiff, z0, z1, zn, zy, Cells.get, getN, t4, m4]
   refine hQ _ ⟨rfl, ?_⟩
   have y1 : Ext [s.next + 1, s.next + 4] S9 (S9.upd (s.next + 1) (.cells (.list [.bool true]) false)) := Ext.upd (.inl (by simp))
   have y2 : Ext [s.next + 1, s.next + 4] (S9.upd (s.next + 1) (.cells (.list [.bool true]) false)) ((S9.upd (s.next + 1) (.cells (.list [.bool true]) false)).rid (s.next + 4)) := Ext.rid (.inl (by simp))
   exact ((((X05.trans' X6).trans' X7').trans' X9')).trans (y1.trans' y2) (by simp)
end
end Go.Dx.TbA
