/- A part. -/
import Derived.Test.YtffgmngdgkpflaaGreatT1Lk
import Derived.Test.YtffgmngdgkpflaaGreatDxTopM
set_option linter.unusedVariables false
set_option linter.unusedSimpArgs false
set_option linter.unusedSectionVars false
set_option maxRecDepth 100000
set_option maxHeartbeats 4000000
namespace Go.Dx.TbA
open Go Go.Dx Go.Dx.Tab Go.Proofs.YtffgmngdgkpflaaGreat
def Dy : DCode := (.seq (.region [⟨some 54, .mv (tm 7), none, [], true⟩, ⟨some 55, .un .not (tm 54), none, [], true⟩, ⟨some 56, .mv (tm 55), none, [], true⟩, ⟨some 57, .mv (tm 4), some (56, false), [], true⟩, ⟨some 58, .mv (tm 6), some (56, false), [], true⟩, ⟨some 59, .call (.func 8) [.tmp 57, .tmp 58], some (56, false), [], true⟩, ⟨some 60, .mv (tm 59), some (56, false), [], true⟩, ⟨some 61, .mv (tm 4), some (60, true), [], true⟩, ⟨some 64, .mv (tm 0), some (60, true), [], true⟩, ⟨some 65, .cvToStr (tm 64), some (60, true), [], true⟩, ⟨some 62, .call (.func 9) [.tmp 61], some (60, true), [9], true⟩, ⟨some 63, .cvToStr (tm 62), some (60, true), [], true⟩, ⟨some 66, .bin .eql (tm 63) (tm 65), some (60, true), [], true⟩, ⟨some 67, .pick (tm 60) (tm 66) (.const (.bool false)), some (56, false), [], true⟩, ⟨some 68, .pick (tm 56) (.const (.bool true)) (tm 67), none, [], true⟩, ⟨some 2, .mv (tm 68), none, [], true⟩]) (.ret))
def dLu : z7 := { ntmps := 69, results := [.tmp 2], body := .seq (.region [pp 2 (.mv (.const (.bool false)))]) (.seq (.seq (.region [pv 8 0, pp 9 (.blenL (tm 8)), pp 10 (.bin .gtr (tm 9) (.const (.int .i64 131072)))]) (.cond (tm 10) (.seq (.region [pp 11 (.call (.func 5) []), pv 2 11]) (.ret)) (.skip))) (.seq (.region [pp 12 (.bslice 0 1 [.int .u8 0] []), pv 13 0, pp 14 (.bapp 1 1 (tm 12) (tm 13)), pv 3 14]) (.seq (.region [pv 16 3, pp 17 (.call (.func 6) [.tmp 16]), pv 15 17, pp 18 (.ext (tm 15) 0), pp 19 (.ext (tm 15) 1), pv 4 18, pv 5 19]) (.seq (.region [pv 21 0, pp 22 (.call (.func 7) [.tmp 21]), pv 20 22, pp 23 (.ext (tm 20) 0), pp 24 (.ext (tm 20) 1), pv 6 23, pv 7 24]) (.seq (.seq (.region [pp 25 (.call (.func 5) []), pp 26 (.un .not (tm 25)), pv 27 26, pw 28 5 27 false, pg 29 (.bin .eql (tm 28) (.const (.int .i64 0))) 27 false, pw 30 7 27 false, pg 31 (.eq true (.one .bool) (tm 29) (tm 30)) 27 false, pp 32 (.pick (tm 27) (.const (.bool true)) (tm 31)), pv 33 32, pw 34 4 33 false, pg 35 (.eq true (.one .ptr) (tm 34) (.const (.pointer none))) 33 false, pw 36 7 33 false, pg 37 (.eq true (.one .bool) (tm 35) (tm 36)) 33 false, pp 38 (.pick (tm 33) (.const (.bool true)) (tm 37)), pv 39 38, pw 40 7 39 false, pg 41 (.un .not (tm 40)) 39 false, pw 42 41 39 false, pw 43 5 42 true, pg 44 (.bin .neq (tm 43) (.const (.int .i64 10))) 42 true, pg 45 (.pick (tm 42) (tm 44) (.const (.bool false))) 39 false, pp 46 (.pick (tm 39) (.const (.bool true)) (tm 45)), pv 47 46, pw 48 3 47 false, pg 49 (.cvToStr (tm 48)) 47 false, pw 50 0 47 false, pg 51 (.cvToStr (tm 50)) 47 false, pg 52 (.bin .neq (tm 49) (tm 51)) 47 false, pp 53 (.pick (tm 47) (.const (.bool true)) (tm 52))]) (.cond (tm 53) (.seq (.region [pp 2 (.mv (.const (.bool false)))]) (.ret)) (.skip))) Dy))))) }
theorem HS : d3 = dLu := rfl
section
variable {E : Env} (hC : KQ E) (hG' : Dd E) (hR : FR E) (hF : FP E) (hT : FQ E) (hE : PX E) (hW : LX E) (hP : LY E) (hI : Cp E) (hO : Gt E) {s : DS} {d : Nat} {v0 : Value} {bs : List Int}
include hC hG' hR hF hT hE hW hP hI hO
theorem He (f3 : E.fn 3 = some d3) (i3 : E.intr 3 = none) (h5 : E.intr 5 = some Dj) (fU : E.fn 6 = some d6) (iU : E.intr 6 = none) (frd : E.fn 25 = some d25) (ird : E.intr 25 = none) (fN : E.fn 10 = some d10) (iN : E.intr 10 = none)
 (fRU : E.fn 7 = some d7) (iRU : E.intr 7 = none) (fL : E.fn 8 = some d8) (iL : E.intr 8 = none)
 (hG : s.Good) (hv : SlR s v0 bs) (hB : IsB bs) (hl : (bs.length : Int) ≤ 9223372036854775807) :
 W (dcall E (d + 14) (.func (.func 3) #[] #[]) [v0] s) fun r => r.1 = .bool true := by
 have lv : ∀ dd s, dcall E (dd + 1) (.func (.func 5) #[] #[]) [] s = some (.bool true, s) := fun _ _ => Vd h5 rfl
 have hlf := hC.lf
 rw [zP i3 (show E.fn 3 = some dLu from by rw [← HS]; exact f3) rfl]
 obtain ⟨va, vc, hvs⟩ := hv.len
 by_cases c0 : bs.length ≤ 131072
 case neg =>
  have e0 : (131072 : Int) < (bs.length : Int) := by omega
  subst hvs
  simp (maxSteps := 4000000) only [zq, zg, zD, zI, za, Zf, zf, zl, zo, zN, ze, zr, zj, zK, zV, ZE, zB, zp, Zc, zX, zu, zi, zm, zA, zd, zb, zc, z0, zh, List.getElem?_cons_zero, z1, zn, zy, z5, if_true, reduceCtorEq, pp, pv, pw, pg, decide_true, dLu, e0, lv]
 have e0 : ¬ (131072 : Int) < (bs.length : Int) := by omega
 have hvl := hv.lt
 have hvw := hv.view
 rw [← XP] at hvw
 subst hvs
 simp (maxSteps := 4000000) (maxDischargeDepth := 8) only [zq, zg, zD, zO, za, zf, zl, zo, zt, ze, zr, Wg, zj, zK, zV, ZE, zp, Zc, zX, zi, zm, zd, zb, zc, z0, zh, List.getElem?_cons_zero, z1, Nat.ble_eq, Nat.reduceLeDiff, if_true, zM, pp, pv, pw, pg, KC, W6, repeatZ, Wg, Nat.mul_one, decide_false, zJ, Nat.lt_add_one, Nat.succ_pos, dLu, e0, hG]
 obtain ⟨S1, hS1⟩ : ∃ S1 : DS, S1 = s.new (.cells (.list []) false) := ⟨_, rfl⟩
 rw [← hS1]
 have X1 : ∀ F, Ext F s S1 := fun F => by rw [hS1]; exact Ext.new
 have n1 : S1.next = s.next + 1 := by rw [hS1]; rfl
 have g1 : S1.get s.next = some (.cells (.list []) false) := by rw [hS1]; exact DS.new_get_self hG
 have hx : SlX S1 1 (.slice (some ⟨s.next, 0, none⟩) 0 0) [] := .inr ⟨s.next, none, rfl, .inl rfl, g1, (X1 []).wrs (hG _ (Nat.le_refl _)).2⟩
 have v1 := (hv.keep (X1 []) (by simp)).view
 rw [← XP] at v1
 refine W.mono (QR hx v1 ⟨(fun y hy => nomatch hy), (fun y hy => nomatch hy)⟩ (YM _) ((X1 []).good hG) (by rw [Ze]; simp; omega) (by rw [Ze]; simp; omega)) ?_
 rintro ⟨ov, S2⟩ ⟨h2, X2, b2⟩
 simp only [List.nil_append] at h2 X2 b2
 have XS : Ext [] s S2 := (X1 []).trans X2 (by simp [blk])
 have G2 := XS.good hG
 have hR2 := SlX.toR' h2
 have hb2 : ∀ k, k ∈ blk ov → s.next ≤ k := fun k hk => by
  rcases b2 k hk with h | h
  · simp [blk] at h; omega
  · omega
 simp (maxSteps := 4000000) only [zq, zg, za, zf, zl, zo, ze, zK, zB, zi, zA, zd, zb, z1, z4, z5]
 refine W.mono (TS hC hG' hR hF hT (d := d + 2) fU iU frd ird fN iN hR2 hB (by omega) G2) ?_
 rintro ⟨r3, S3⟩ ⟨X3, h3⟩
 simp only at X3 h3
 have G3 := X3.good G2
 have hv3 := (hv.keep XS (by simp)).keep X3 (by simp)
 have hR3 := hR2.keep X3 (by simp)
 have le3 := X3.le
 have hTE := DI bs
 have hTN : F5 .neq ⟨⟨bs.map fun n => UInt8.ofNat n.toNat⟩⟩ ⟨⟨bs.map fun n => UInt8.ofNat n.toNat⟩⟩ = some (.bool false) := by
  show some (Value.bool (!(WE _ _))) = _
  rw [Wo, beq_self_eq_true]
  rfl
 have dN : F5 .neq ⟨⟨[]⟩⟩ ⟨⟨[]⟩⟩ = some (.bool false) := rfl
 have htb := KD bs
 rcases h3 with ⟨hn, rfl⟩ | ⟨⟨hg, hok⟩, t, m, rfl, ct, htn, hmn⟩
 · simp (maxSteps := 4000000) only [zq, zg, za, zf, zl, zo, ze, zr, zj, zK, YJ, zB, zp, zi, zA, zd, zb, zc, Nat.reduceEqDiff, z0, zh, List.getElem?_cons_zero, z1, z4, z5, getN, reduceCtorEq]
   refine W.mono (GX hI (d := d + 7) fRU iRU hv3 hB (by omega) G3) ?_
   rintro ⟨r4, S4⟩ ⟨X4, h4⟩
   simp only at X4 h4
   rcases h4 with ⟨_, pr0, rfl⟩ | ⟨hg, _⟩
   case inr => exact absurd hg hn
   have hv4 := hv3.keep X4 (by simp)
   have hR4 := hR3.keep X4 (by simp)
   rcases hR4 with ⟨hv1, hb1⟩ | ⟨b1, o1, sp1, cc1, hv1, _, _, hrd1⟩
   · rcases hv4 with ⟨hv5, _⟩ | ⟨b5, o5, sp5, cc5, hv5, _, _, hrd5⟩
     · rw [hv1, hv5]
       have d0 : F5 .eql ⟨⟨[]⟩⟩ ⟨⟨[]⟩⟩ = some (.bool true) := rfl
       simp (maxSteps := 4000000) (maxDischargeDepth := 8) only [zq, zg, zD, zO, zI, za, zf, zl, zo, Yp, Zm, Za, Yg, zY, zt, ze, Zn, zr, YB, zj, zK, zR, zV, Xr, YU, YJ, zB, zp, Zc, zX, zZ, ZS, zu, zi, zm, zA, zd, zb, zc, z0, zh, List.getElem?_cons_zero, z1, zn, zy, z5, getN, if_true, if_false, Bool.not_true, Bool.not_false, z3, List.nil_append, List.cons_append, decide_true, decide_false, Int.reduceEq, Option.isNone_none, foot, Wb, YH, zJ, ZF, Nat.reduceLT, Nat.lt_add_one, Nat.succ_pos, lv, Dy, beq_self_eq_true, d0, dN]
     · rw [hv1, hv5]
       have d0 : F5 .eql ⟨⟨[]⟩⟩ ⟨⟨[]⟩⟩ = some (.bool true) := rfl
       have hr0 : S4.read b5 o5 0 = some [] := by rw [hb1] at hrd5; exact hrd5
       have t0 : XE [] = some [] := rfl
       simp (maxSteps := 4000000) (maxDischargeDepth := 8) only [zq, zg, zD, zO, zI, za, zf, zl, zo, Yp, Zm, Za, Yg, zY, zt, ze, Zn, zr, YB, zj, zK, zR, zV, Xr, YU, YJ, zB, zp, Zc, zX, zZ, ZS, zu, zi, zm, zA, zd, zb, zc, z0, zh, List.getElem?_cons_zero, z1, zn, zy, z5, getN, List.length_nil, if_true, if_false, Bool.not_true, Bool.not_false, z3, List.nil_append, List.cons_append, decide_true, decide_false, Int.reduceEq, Option.isNone_none, foot, Wb, YH, zJ, ZF, Nat.reduceLT, Nat.lt_add_one, Nat.succ_pos, lv, Dy, beq_self_eq_true, hb1, List.length_nil, hr0, t0, d0, dN]
   · rcases hv4 with ⟨hv5, hb5⟩ | ⟨b5, o5, sp5, cc5, hv5, _, _, hrd5⟩
     · rw [hv1, hv5]
       have d0 : F5 .eql ⟨⟨[]⟩⟩ ⟨⟨[]⟩⟩ = some (.bool true) := rfl
       have hr0 : S4.read b1 o1 0 = some [] := by rw [hb5] at hrd1; exact hrd1
       have t0 : XE [] = some [] := rfl
       simp (maxSteps := 4000000) (maxDischargeDepth := 8) only [zq, zg, zD, zO, zI, za, zf, zl, zo, Yp, Zm, Za, Yg, zY, zt, ze, Zn, zr, YB, zj, zK, zR, zV, Xr, YU, YJ, zB, zp, Zc, zX, zZ, ZS, zu, zi, zm, zA, zd, zb, zc, z0, zh, List.getElem?_cons_zero, z1, zn, zy, z5, getN, List.length_nil, if_true, if_false, Bool.not_true, Bool.not_false, z3, List.nil_append, List.cons_append, decide_true, decide_false, Int.reduceEq, Option.isNone_none, foot, Wb, YH, zJ, ZF, Nat.reduceLT, Nat.lt_add_one, Nat.succ_pos, lv, Dy, beq_self_eq_true, hb5, List.length_nil, hr0, t0, d0, dN]
     · rw [hv1, hv5]
       simp (maxSteps := 4000000) (maxDischargeDepth := 8) only [zq, zg, zD, zO, zI, za, zf, zl, zo, Yp, Zm, Za, Yg, zY, zt, ze, Zn, zr, YB, zj, zK, zR, zV, Xr, YU, YJ, zB, zp, Zc, zX, zZ, ZS, zu, zi, zm, zA, zd, zb, zc, z0, zh, List.getElem?_cons_zero, z1, zn, zy, z5, getN, if_true, if_false, Bool.not_true, Bool.not_false, z3, List.nil_append, List.cons_append, decide_true, decide_false, Int.reduceEq, Option.isNone_none, foot, Wb, YH, zJ, ZF, Nat.reduceLT, Nat.lt_add_one, Nat.succ_pos, lv, Dy, beq_self_eq_true, hrd1, hrd5, htb, hTE, hTN]
 · simp (maxSteps := 4000000) only [zq, zg, za, zf, zl, zo, ze, zr, zj, zK, YJ, zB, zp, zi, zA, zd, zb, zc, Nat.reduceEqDiff, z0, zh, List.getElem?_cons_zero, z1, z4, z5, getN, reduceCtorEq]
   refine W.mono (GX hI (d := d + 7) fRU iRU hv3 hB (by omega) G3) ?_
   rintro ⟨r4, S4⟩ ⟨X4, h4⟩
   simp only at X4 h4
   rcases h4 with ⟨hn, _⟩ | ⟨_, q, rfl, cr, hqn⟩
   · exact absurd ⟨hg, hok⟩ hn
   have hM := hok.trs
   have hback : Qc (Go.Dx.Tab.rowOf (Ye (rdT (bs, false)).1)) = bs := by
    rw [Pw hok fun x hx => (Ds hB x hx).1]
    exact (hg.code hB).symm
   have hv4 := hv3.keep X4 (by simp)
   have hR4 := hR3.keep X4 (by simp)
   have ct4 := ct.keep X4 (by simp) (by simp)
   have G4 := X4.good G3
   have hne : bs ≠ [] := fun h => by
    have h1 : (Qc (Go.Dx.Tab.rowOf (Ye (rdT (bs, false)).1))).length = 0 := by rw [hback, h]; rfl
    unfold Qc KJ at h1
    rw [List.length_append, ZP] at h1
    omega
   have ht3 := DS.get_lt' ct.go
   have hm3 := DS.get_lt' ct.gm
   rcases hR4 with ⟨_, hb1⟩ | ⟨b1, o1, sp1, cc1, hv1, _, _, hrd1⟩
   · exact absurd hb1 hne
   rcases hv4 with ⟨_, hb1⟩ | ⟨b5, o5, sp5, cc5, hv5, _, _, hrd5⟩
   · exact absurd hb1 hne
   rw [hv1, hv5]
   simp (maxSteps := 4000000) (maxDischargeDepth := 8) only [zq, zg, zD, zO, za, zf, zl, zo, Yp, Zm, Zv, zY, zt, ze, Zn, zr, YB, zj, zK, zR, zV, Xr, YU, YJ, zB, zp, Zc, zX, zZ, ZS, zi, zm, zA, zd, zb, zc, z0, zh, List.getElem?_cons_zero, z1, z4, z5, getN, if_true, if_false, Bool.not_true, Bool.not_false, z3, List.nil_append, List.cons_append, decide_true, foot, Wb, zJ, ZF, Nat.reduceLT, Nat.lt_add_one, Nat.succ_pos, lv, Dy, beq_self_eq_true, hrd1, hrd5, htb, hTE, hTN]
   refine W.mono (Pb hT hP hC hE hF hW hO (d := d) fL iL hM ct4 cr (by omega) (by omega) G4) ?_
   rintro ⟨v5, S5⟩ ⟨h5', X5⟩
   simp only at h5' X5
   subst h5'
   have G5 := X5.good G4
   have ct5 := ct4.keep X5 (by simp) (by simp)
   have hv6 := (hv3.keep X4 (by simp)).keep X5 (by simp)
   rcases hv6 with ⟨_, hb1⟩ | ⟨b6, o6, sp6, cc6, hv6, _, _, hrd6⟩
   · exact absurd hb1 hne
   have hee := hv5.symm.trans hv6
   injection hee with he1 he2 he3
   injection he1 with he1
   injection he1 with he4 he5 he6
   subst he4 he5
   simp (maxSteps := 4000000) (maxDischargeDepth := 8) only [Yp, Zm, WL, Za, zY, Zn, zr, zj, zK, zB, zZ, zi, zA, zd, zb, zc, z0, zh, List.getElem?_cons_zero, z1, z4, z5, List.nil_append, List.cons_append, foot, Wb, zJ, Nat.reduceLT, Nat.lt_add_one, Nat.succ_pos, hrd6, htb]
   have hb5l : b5 < s.next := hvl b5 (by rw [hv5]; simp [blk])
   have les := XS.le
   have le4 := X4.le
   have le5 := X5.le
   refine W.masked (hE.fr _) (Dk hC hT hE hF hW hP (d := d + 1) hM (ct5.mask ⟨by (simp only [hidden, shielded, noteAt, ZD, Bool.or_false, Bool.or_eq_false_iff, Bool.and_eq_false_iff, ZW, Yb, ZZ, true_and, and_true, true_or, or_true] <;> omega), by (simp only [hidden, shielded, noteAt, ZD, Bool.or_false, Bool.or_eq_false_iff, Bool.and_eq_false_iff, ZW, Yb, ZZ, true_and, and_true, true_or, or_true] <;> omega)⟩ ⟨by (simp only [hidden, shielded, noteAt, ZD, Bool.or_false, Bool.or_eq_false_iff, Bool.and_eq_false_iff, ZW, Yb, ZZ, true_and, and_true, true_or, or_true] <;> omega), by (simp only [hidden, shielded, noteAt, ZD, Bool.or_false, Bool.or_eq_false_iff, Bool.and_eq_false_iff, ZW, Yb, ZZ, true_and, and_true, true_or, or_true] <;> omega)⟩) (YL G5 fun k hk => ⟨by (simp only [hidden, shielded, noteAt, ZD, Bool.or_false, Bool.or_eq_false_iff, Bool.and_eq_false_iff, ZW, Yb, ZZ, true_and, and_true, true_or, or_true] <;> omega), by (simp only [hidden, shielded, noteAt, ZD, Bool.or_false, Bool.or_eq_false_iff, Bool.and_eq_false_iff, ZW, Yb, ZZ, true_and, and_true, true_or, or_true] <;> omega)⟩)) ?_
   rintro v7 s7 ⟨hv7, hsh7, hb7, X7⟩ df
   simp only at hv7 hsh7 hb7 X7
   rw [hback] at hv7 hsh7
   rcases SlR.of hv7 hsh7 with ⟨_, h0⟩ | ⟨b8, o8, sp8, cc8, rfl, _, _, hrd8⟩
   · exact absurd h0 hne
   have hsame : ∀ k, k ≠ b5 → (Ys S5 s7).get k = s7.get k := fun k hk => XV (by (simp only [hidden, shielded, noteAt, ZD, Bool.or_false, Bool.or_eq_false_iff, Bool.and_eq_false_iff, ZW, Yb, ZZ, true_and, and_true, true_or, or_true] <;> omega)) X7
   have h8 : b8 ≠ b5 := fun e => by
    have := (hb7 b8 (by simp [blk])).1
    have h10 : S5.next ≤ b8 := this
    omega
   obtain ⟨S8, hS8⟩ : ∃ S8 : DS, S8 = Ys S5 s7 := ⟨_, rfl⟩
   have hrd9 : S8.read b8 o8 bs.length = some (u8s bs) := by
    rw [hS8]
    unfold DS.read at hrd8 ⊢
    rw [hsame b8 h8]
    exact hrd8
   simp (maxSteps := 4000000) (maxDischargeDepth := 8) only [zI, za, zf, zl, Yp, Zm, Za, zY, Zn, Yd, zr, zj, zK, zR, zV, zp, Zc, zZ, zu, zi, zm, zd, zb, zc, z0, z1, zn, zy, if_true, if_false, z3, List.nil_append, List.cons_append, foot, Wb, zJ, ZF, Nat.reduceLT, Nat.lt_add_one, ← hS8, hrd9, htb, hTE, hTN]
end
end Go.Dx.TbA
