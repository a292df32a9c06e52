/- A part. -/
import Derived.Test.YtpfkbiaikfbpeaaGreatQ1Sm
set_option linter.unusedVariables false
set_option linter.unusedSimpArgs false
set_option linter.unusedSectionVars false
set_option maxRecDepth 100000
set_option maxHeartbeats 8000000
namespace Go.Dx.RpA
open Go Go.Dx Go.Dx.Search Go.Dx.St Go.Proofs.YtpfkbiaikfbpeaaGreat
def NI : DCode := (.seq (.region [⟨some 73, .mv (tm 8), none, [], true⟩, ⟨some 74, .nilck (tm 73), none, [], true⟩, ⟨some 75, .fadr 21 (tm 74), none, [], true⟩, ⟨some 76, .ld none (tm 75), none, [], true⟩, ⟨some 77, .mv (tm 8), none, [], true⟩, ⟨some 78, .call (.func 21) [.tmp 77], none, [3], true⟩, ⟨none, .mupd .num (tm 76) (.const (.int .i64 0)) (tm 78), none, [], true⟩]) (.seq (.region [pv 79 8, pv 4 79, pp 5 (.mv (.const (.int .i64 0)))]) (.ret)))
def Nc : zp := { ntmps := 80, results := [.tmp 4, .tmp 5], body := .seq (.region [pp 2 (.box (tm 0)), pp 4 (.mv (.const (.pointer none))), pp 5 (.mv (.const (.int .i64 0)))]) (.seq (.seq (.region [pp 9 (.ld (some 7) (tm 2)), pp 10 (.call (.func 15) [.tmp 9]), pp 11 (.un .not (tm 10)), pv 12 11, pw 13 1 12 false, pg 14 (.call (.func 16) [.tmp 13, .const (.int .i64 0), .const (.int .i64 1099511627776)]) 12 false, pg 15 (.un .not (tm 14)) 12 false, pp 16 (.pick (tm 12) (.const (.bool true)) (tm 15))]) (.cond (tm 16) (.seq (.region [pp 4 (.mv (.const (.pointer none))), pp 5 (.mv (.const (.int .i64 1)))]) (.ret)) (.skip))) (.seq (.region [pp 18 (.fadr 3 (tm 2)), pp 19 (.ld none (tm 18)), pp 20 (.fadr 4 (tm 2)), pp 21 (.ld none (tm 20)), pp 22 (.call (.func 17) [.tmp 19, .const (.int .i64 8), .tmp 21]), pv 17 22, pp 23 (.ext (tm 17) 0), pp 24 (.ext (tm 17) 1), pv 6 23, pv 7 24]) (.seq (.seq (.region [pv 25 7, pp 26 (.bin .neq (tm 25) (.const (.int .i64 0)))]) (.cond (tm 26) (.seq (.region [pp 4 (.mv (.const (.pointer none))), pp 5 (.mv (.const (.int .i64 1)))]) (.ret)) (.skip))) (.seq (.region [pp 27 (.ld (some 7) (tm 2)), pv 28 6, pp 29 (.fadr 0 (tm 2)), pp 30 (.ld none (tm 29)), pp 31 (.mkslice 8 [.int .i64 0] (tm 30) (tm 30)), pp 32 (.mkmap none), pp 33 (.mkmap none), pp 34 (.mkmap none), pp 35 (.mkmap none), pp 36 (.mkmap none), pp 37 (.mkmap none), pp 38 (.build [.int .i64 0, .int .i64 0, .int .i64 0, .int .i64 0, .int .i64 0, .int .i64 0, .int .i64 0, .pointer none, .int .i64 0, .int .i64 0, .int .i64 0, .pointer none, .int .i64 0, .int .i64 0, .pointer none, .pointer none, .int .i64 0, .slice none 0 0, .slice none 0 0, .slice none 0 0, .slice none 0 0, .map none, .map none, .map none, .map none, .map none, .map none, .int .i64 0, .slice none 0 0] [(0, 7, .tmp 27), (7, 1, .tmp 28), (8, 1, .const (.int .i64 1)), (20, 1, .tmp 31), (21, 1, .tmp 32), (22, 1, .tmp 33), (23, 1, .tmp 34), (24, 1, .tmp 35), (25, 1, .tmp 36), (26, 1, .tmp 37)]), pp 39 (.box (tm 38)), pv 8 39]) (.seq (.region [pv 41 8, pp 42 (.call (.func 18) [.const (.int .i64 0), .const (.slice none 0 0)]), pv 40 42, pp 43 (.ext (tm 40) 0), pp 44 (.ext (tm 40) 1), pp 45 (.nilck (tm 41)), pp 46 (.fadr 11 (tm 45)), ⟨none, .st 1 (tm 46) (tm 43), none, [], false⟩]) (.seq (.region [pv 48 8, pp 49 (.fadr 2 (tm 2)), pp 50 (.ld none (tm 49)), pp 51 (.call (.func 19) [.tmp 50]), pv 47 51, pp 52 (.ext (tm 47) 0), pp 53 (.ext (tm 47) 1), pp 54 (.nilck (tm 48)), pp 55 (.fadr 14 (tm 54)), ⟨none, .st 1 (tm 55) (tm 52), none, [], false⟩]) (.seq (.region [pv 56 8, pp 57 (.call (.func 20) []), pp 58 (.nilck (tm 56)), pp 59 (.fadr 15 (tm 58)), ⟨none, .st 1 (tm 59) (tm 57), none, [], false⟩]) (.seq (.region [pv 60 8, pp 61 (.nilck (tm 60)), pp 62 (.fadr 20 (tm 61)), pp 63 (.ld none (tm 62)), pp 64 (.fadr 1 (tm 2)), pp 65 (.ld none (tm 64)), pv 66 1, pp 67 (.ixL 1 (tm 63) (tm 65)), ⟨none, .st 1 (tm 67) (tm 66), none, [], false⟩]) (.seq (.seq (.region [pv 68 1, pp 69 (.bin .gtr (tm 68) (.const (.int .i64 0)))]) (.cond (tm 69) (.region [pv 70 8, pp 71 (.nilck (tm 70)), pp 72 (.fadr 8 (tm 71)), ⟨none, .st 1 (tm 72) (.const (.int .i64 3)), none, [], false⟩]) (.skip))) NI))))))))) }
theorem Rq : d4 = Nc := rfl
section
variable {E : Env} (hQ0 : CS E) (hC : CFns E) (hP : Dw E) (hF : Fns E) (hI : Its E) (hB : RR E) (hC2 : RpB.CFns E) (hT : RpB.TbFns E) (hK : CT E) {s : DS} {d : Nat} {c me rm kd lm ev pt b : Int}
include hQ0 hC hP hF hI hB hC2 hT
theorem Pb (hG : s.Good) : W (dcall E (d + 17) (.func (.func 4) #[] #[]) [.agg ⟨[.int .i64 c, .int .i64 me, .int .i64 rm, .int .i64 kd, .int .i64 lm, .int .i64 ev, .int .i64 pt]⟩, .int .i64 b] s) fun r => Ext [] s r.2 ∧ ((Zm c me rm kd lm ev pt b ∧ ∃ R lg st, r.1 = .tuple ⟨[.pointer (some ⟨R, 0, none⟩), .int .i64 0]⟩ ∧ MY r.2 R lg st rm (if 0 < b then 3 else 1)) ∨ (¬ Zm c me rm kd lm ev pt b ∧ r.1 = .tuple ⟨[.pointer none, .int .i64 1]⟩)) := by
 have hlf := hQ0.lf
 refine Zz fun Q hQ => ?_
 rw [zF hQ0.iQNew (hQ0.fQNew.trans (congrArg some Rq)) rfl]
 obtain ⟨S, hS⟩ : ∃ S : DS, S = s.new (.cells (.list [.int .i64 c, .int .i64 me, .int .i64 rm, .int .i64 kd, .int .i64 lm, .int .i64 ev, .int .i64 pt]) false) := ⟨_, rfl⟩
 have X : Ext [] s S := by rw [hS]; exact Ext.new
 have g : S.get s.next = some (.cells (.list [.int .i64 c, .int .i64 me, .int .i64 rm, .int .i64 kd, .int .i64 lm, .int .i64 ev, .int .i64 pt]) false) := by rw [hS]; exact DS.new_get_self hG
 have hG1 := X.good hG
 have hld : ∀ {S' : DS}, S'.get s.next = some (.cells (.list [.int .i64 c, .int .i64 me, .int .i64 rm, .int .i64 kd, .int .i64 lm, .int .i64 ev, .int .i64 pt]) false) → ldA 7 (.pointer (some ⟨s.next, 0, none⟩)) S' = some (.agg ⟨[.int .i64 c, .int .i64 me, .int .i64 rm, .int .i64 kd, .int .i64 lm, .int .i64 ev, .int .i64 pt]⟩) := fun {S'} h => by
  simp only [ldA, DS.read, h]
  rfl
 have bad : ∀ S', Ext [] s S' → ¬ Zm c me rm kd lm ev pt b → Q (.tuple ⟨[.pointer none, .int .i64 1]⟩, S') := fun S' X' h => hQ _ ⟨X', .inr ⟨h, rfl⟩⟩
 simp (maxSteps := 4000000) (maxDischargeDepth := 8) only [zr, zf, zc, zg, zn, zt, ze, zu, zi, zM, Z4, zB, zl, zk, zy, zd, zb, za, z0, zq, List.getElem?_cons_zero, z1, z4, z5, zD, pp, pv, pw, pg, Q3, zZ, Nat.reduceLT, Nc, ← hS, hld g]
 refine W.mono (Pc hQ0 (d := d + 14) hG1) ?_
 rintro ⟨v2, s2⟩ ⟨⟨B, hv2, hMB⟩, X2⟩
 simp only at hv2 X2
 subst hv2
 have g2 := X2.keep g (by simp)
 have X02 := X.trans' X2
 have hG2 := X2.good hG1
 cases B with
 | false =>
  have hnr : ¬ Zm c me rm kd lm ev pt b := fun h => by
   have := hMB.2 (by unfold Zm at h; unfold Q5; omega)
   cases this
  have := bad _ X02 hnr
  simp (maxSteps := 4000000) only [zr, zf, zA, zI, zc, ZE, zg, zn, zt, ZK, ZH, zS, ze, zu, zi, zM, zU, Jn, zm, zx, zl, zk, zd, zb, za, Nat.reduceEqDiff, z0, z1, zo, zz, if_true, if_false, Bool.not_false, z3, List.nil_append]
  exact this
 | true =>
  have hM := hMB.1 rfl
  have hw := Vz hQ0 (d := d + 15) (s := s2) b 0 1099511627776
  by_cases hb : 0 ≤ b ∧ b ≤ 1099511627776
  rotate_left
  · have e1 : decide (0 ≤ b ∧ b ≤ 1099511627776) = false := decide_eq_false hb
    have := bad _ X02 (fun h => hb (by unfold Zm at h; omega))
    simp (maxSteps := 4000000) only [zr, zf, zA, zI, zc, ZE, zg, zn, zt, ZK, zV, zS, ze, zu, zi, zM, zU, Jn, zB, zm, zx, zl, zk, zy, zd, zb, za, Nat.reduceEqDiff, z0, zq, List.getElem?_cons_zero, List.getElem?_cons_succ, z1, zo, zz, z4, z5, if_false, Bool.not_true, Bool.not_false, z3, hw, e1]
    exact this
  have e1 : decide (0 ≤ b ∧ b ≤ 1099511627776) = true := decide_eq_true hb
  simp (maxSteps := 4000000) only [zr, zf, zA, zO, zc, zg, zn, zt, ZK, zV, zv, ze, zu, zi, zM, zU, Jn, zH, Zh, zB, zm, zl, zk, zy, zd, zb, za, Nat.reduceEqDiff, z0, zq, List.getElem?_cons_zero, List.getElem?_cons_succ, z1, z4, z5, zC, Cells.get, getN, Nat.zero_add, if_false, Bool.not_true, z3, hw, e1, g2]
  refine W.mono (Pd hQ0 (d := d + 14) (kd := kd) (lm := lm) hG2) ?_
  rintro ⟨v3, s3⟩ ⟨X3, ⟨hE, p, hv3, hp⟩ | ⟨hE, hv3⟩⟩
  rotate_left
  · simp only at hv3 X3
    subst hv3
    have := bad _ (X02.trans' X3) (fun h => hE (by unfold Zm at h; unfold Gb; omega))
    simp (maxSteps := 4000000) only [zr, zf, zA, zI, zc, ZE, zg, zn, zt, zS, ze, zu, zi, zM, zT, WS, zm, zY, zP, zx, zl, zk, zd, zb, za, Nat.reduceEqDiff, z0, z1, zo, zz, getN, if_true, Bool.not_false, decide_false, Int.reduceEq]
    exact this
  simp only at hv3 X3
  subst hv3
  have hR : Zm c me rm kd lm ev pt b := by unfold Q5 at hM; unfold Gb at hE; unfold Zm; omega
  have g3 := X3.keep g2 (by simp)
  have X03 := X02.trans' X3
  have hG3 := X3.good hG2
  have hle3 := X03.le
  obtain ⟨n, hn, hn7⟩ : ∃ n : Nat, c = (n : Int) ∧ n ≤ 7 := ⟨c.toNat, by unfold Q5 at hM; omega, by unfold Q5 at hM; omega⟩
  obtain ⟨k, hk, hkn⟩ : ∃ k : Nat, me = (k : Int) ∧ k < n := ⟨me.toNat, by unfold Q5 at hM; omega, by unfold Q5 at hM; omega⟩
  subst hn hk
  have hmk : ∀ S : DS, NJ (.int .i64 (n : Int)) (.int .i64 (n : Int)) S = some (.slice (some ⟨S.next, 0, none⟩) n n, S.new (.cells (.list (repeatZ [.int .i64 0] n)) false)) := fun S => by
   have h1 : Nat.ble n n = true := Nat.ble_eq.mpr (Nat.le_refl _)
   have h2 : Nat.ble n 1099511627776 = true := Nat.ble_eq.mpr (by omega)
   have h3 : Nat.ble (n * 8) 1099511627776 = true := Nat.ble_eq.mpr (by omega)
   have h4 : Nat.blt 32 n = false := by rw [YO]; omega
   unfold NJ
   simp only [Zw, zW, h1, h2, h3, h4, Bool.and_self, if_true, z3, if_false]
  have hlg := fun S => Cp hQ0 (d := d + 14) (s := S)
  simp (maxSteps := 4000000) (maxDischargeDepth := 8) only [zr, zf, zA, zO, zc, zg, zn, zt, zv, ze, zu, Z3, zi, zM, zT, ZG, zH, WS, Zh, Z4, Fj, zB, zm, zY, zP, zl, zk, zy, zd, zb, za, z0, z1, z4, z5, zC, Cells.get, getN, Nat.zero_add, Nat.reduceAdd, Zg, Xb, YD, Kp, zD, List.length_cons, List.length_nil, Bool.and_self, Bool.and_eq_true, Nat.beq_eq, Nat.ble_eq, Nat.reduceLeDiff, and_self, if_true, Bool.not_true, zL, List.take_zero, List.take_succ_cons, List.drop_succ_cons, List.drop_zero, List.nil_append, List.cons_append, z7, Q3, Nat.add_zero, decide_true, zZ, Xw, Nat.add_assoc, Nat.reduceLT, Nat.lt_add_one, hld g3, g3, MW, hmk]
  obtain ⟨T0, hT0⟩ : ∃ T0 : DS, T0 = ((((((s3.new (.cells (.list (repeatZ [.int .i64 0] n)) false)).new (.map [] 0)).new (.map [] 0)).new (.map [] 0)).new (.map [] 0)).new (.map [] 0)).new (.map [] 0) := ⟨_, rfl⟩
  rw [← hT0]
  have nT0 : T0.next = s3.next + 7 := by rw [hT0]; rfl
  have XT0 : Ext [] s3 T0 := by rw [hT0]; exact (((((Ext.new.trans' Ext.new).trans' Ext.new).trans' Ext.new).trans' Ext.new).trans' Ext.new).trans' Ext.new
  have gb0 : T0.get s3.next = some (.cells (.list (repeatZ [.int .i64 0] n)) false) := by rw [hT0]; simp (maxSteps := 4000000) (maxDischargeDepth := 8) only [Nat.reduceAdd, z7, zw, zE, zK, Z0, Nat.add_assoc, Nat.lt_add_one, Nat.succ_pos, hG3]
  have gm0 : T0.get (s3.next + 1) = some (.map [] 0) := by rw [hT0]; simp (maxSteps := 4000000) (maxDischargeDepth := 8) only [Nat.reduceAdd, z7, zw, zE, zK, Nat.add_assoc, Nat.reduceLT, Nat.lt_add_one, Nat.add_lt_add_iff_left, hG3]
  have wb0 : T0.wr s3.next = true := XT0.wrs (hG3 _ (Nat.le_refl _)).2
  have wm0 : T0.wr (s3.next + 1) = true := XT0.wrs (hG3 _ (Nat.le_succ _)).2
  have gs0 := XT0.keep g3 (by simp)
  have hGT0 := XT0.good hG3
  obtain ⟨R, hRn⟩ : ∃ R, R = s3.next + 7 := ⟨_, rfl⟩
  rw [← hRn] at nT0 ⊢
  obtain ⟨T1, hT1⟩ : ∃ T1 : DS, T1 = T0.new (.cells (.list [.int .i64 (n : Int), .int .i64 (k : Int), .int .i64 rm, .int .i64 kd, .int .i64 lm, .int .i64 ev, .int .i64 pt, .pointer (some ⟨p, 0, none⟩), .int .i64 1, .int .i64 0, .int .i64 0, .pointer none, .int .i64 0, .int .i64 0, .pointer none, .pointer none, .int .i64 0, .slice none 0 0, .slice none 0 0, .slice none 0 0, .slice (some ⟨s3.next, 0, none⟩) n n, .map (some (s3.next + 1)), .map (some (s3.next + 2)), .map (some (s3.next + 3)), .map (some (s3.next + 4)), .map (some (s3.next + 5)), .map (some (s3.next + 6)), .int .i64 0, .slice none 0 0]) false) := ⟨_, rfl⟩
  rw [← hT1]
  have nT1 : T1.next = R + 1 := by rw [hT1]; show T0.next + 1 = _; rw [nT0]
  have XT1 : Ext [] T0 T1 := by rw [hT1]; exact Ext.new
  have gR1 : T1.get R = some (.cells (.list [.int .i64 (n : Int), .int .i64 (k : Int), .int .i64 rm, .int .i64 kd, .int .i64 lm, .int .i64 ev, .int .i64 pt, .pointer (some ⟨p, 0, none⟩), .int .i64 1, .int .i64 0, .int .i64 0, .pointer none, .int .i64 0, .int .i64 0, .pointer none, .pointer none, .int .i64 0, .slice none 0 0, .slice none 0 0, .slice none 0 0, .slice (some ⟨s3.next, 0, none⟩) n n, .map (some (s3.next + 1)), .map (some (s3.next + 2)), .map (some (s3.next + 3)), .map (some (s3.next + 4)), .map (some (s3.next + 5)), .map (some (s3.next + 6)), .int .i64 0, .slice none 0 0]) false) := by rw [hT1]; exact zw hGT0 nT0.symm
  have wR1 : T1.wr R = true := by rw [hT1]; exact (hGT0 _ (by omega)).2
  have hGT1 := XT1.good hGT0
  clear hT1
  obtain ⟨T2, hT2⟩ : ∃ T2 : DS, T2 = T1.new (.cells (.list [.int .i64 0, .slice none 0 0]) false) := ⟨_, rfl⟩
  have nT2 : T2.next = R + 2 := by rw [hT2]; show T1.next + 1 = _; rw [nT1]
  have XT2 : Ext [] T1 T2 := by rw [hT2]; exact Ext.new
  have hGT2 := XT2.good hGT1
  have gl2 : T2.get (R + 1) = some (.cells (.list [.int .i64 0, .slice none 0 0]) false) := by rw [hT2]; exact zw hGT1 nT1.symm
  have gR2 := XT2.keep gR1 (by simp)
  have wR2 := XT2.wrs wR1
  have hlg1 : dcall E (d + 16) (.func (.func 18) #[] #[]) [.int .i64 0, .slice none 0 0] T1 = some (.tuple ⟨[.pointer (some ⟨R + 1, 0, none⟩), .int .i64 0]⟩, T2) := by
   have := Cp hQ0 (d := d + 14) (s := T1)
   rw [← hT2, nT1] at this
   exact this
  have hsR : ¬ s.next = R := by have := DS.get_lt' g3; omega
  obtain ⟨T3, hT3⟩ : ∃ T3 : DS, T3 = T2.upd R (.cells (.list [.int .i64 (n : Int), .int .i64 (k : Int), .int .i64 rm, .int .i64 kd, .int .i64 lm, .int .i64 ev, .int .i64 pt, .pointer (some ⟨p, 0, none⟩), .int .i64 1, .int .i64 0, .int .i64 0, .pointer (some ⟨R + 1, 0, none⟩), .int .i64 0, .int .i64 0, .pointer none, .pointer none, .int .i64 0, .slice none 0 0, .slice none 0 0, .slice none 0 0, .slice (some ⟨s3.next, 0, none⟩) n n, .map (some (s3.next + 1)), .map (some (s3.next + 2)), .map (some (s3.next + 3)), .map (some (s3.next + 4)), .map (some (s3.next + 5)), .map (some (s3.next + 6)), .int .i64 0, .slice none 0 0]) false) := ⟨_, rfl⟩
  have nT3 : T3.next = R + 2 := by rw [hT3, DS.upd_next, nT2]
  have XT3 : Ext [R] T2 T3 := by rw [hT3]; exact Ext.upd (.inl (by simp))
  have hGT3 := XT3.good hGT2
  have gR3 : T3.get R = some (.cells (.list [.int .i64 (n : Int), .int .i64 (k : Int), .int .i64 rm, .int .i64 kd, .int .i64 lm, .int .i64 ev, .int .i64 pt, .pointer (some ⟨p, 0, none⟩), .int .i64 1, .int .i64 0, .int .i64 0, .pointer (some ⟨R + 1, 0, none⟩), .int .i64 0, .int .i64 0, .pointer none, .pointer none, .int .i64 0, .slice none 0 0, .slice none 0 0, .slice none 0 0, .slice (some ⟨s3.next, 0, none⟩) n n, .map (some (s3.next + 1)), .map (some (s3.next + 2)), .map (some (s3.next + 3)), .map (some (s3.next + 4)), .map (some (s3.next + 5)), .map (some (s3.next + 6)), .int .i64 0, .slice none 0 0]) false) := by rw [hT3, DS.upd_get_self, gR2]; rfl
  have wR3 := XT3.wrs wR2
  have gs3 := XT3.keep (XT2.keep (XT1.keep gs0 (by simp)) (by simp)) (by simpa using hsR)
  have gl3 := XT3.keep gl2 (by simp)
  have gb3 := XT3.keep (XT2.keep (XT1.keep gb0 (by simp)) (by simp)) (by simp; omega)
  have gm3 := XT3.keep (XT2.keep (XT1.keep gm0 (by simp)) (by simp)) (by simp; omega)
  have wb3 := XT3.wrs (XT2.wrs (XT1.wrs wb0))
  have wm3 := XT3.wrs (XT2.wrs (XT1.wrs wm0))
  have X03' : Ext [] s T3 := (((X03.trans' XT0).trans' XT1).trans' XT2).trans XT3 (by simp; omega)
  simp (maxSteps := 4000000) (maxDischargeDepth := 8) only [zr, zf, zc, zg, zn, zt, ze, zu, Zi, zi, zM, Za, zH, WS, Zh, Yl, zB, zm, zl, zy, zd, zJ, zb, za, z0, z1, z4, z5, zC, Cells.get, getN, Nat.zero_add, Nat.reduceAdd, ZA, Xb, List.length_cons, List.length_nil, allOne, zQ, Bool.and_self, Bool.and_true, Nat.beq_eq, Nat.ble_eq, Nat.reduceLeDiff, if_true, DS.wrC, Cells.size, Cells.fillFrom, Cells.set, Zd, zZ, Xw, Nat.reduceLT, Nat.lt_add_one, hlg1, gR2, wR2, ← hT3, gs3]
  refine W.mono (N4 hF (d := d + 15) hGT3 rm) ?_
  rintro ⟨v4, s4⟩ ⟨X4, ⟨_, _, hv4, c4⟩ | ⟨hbad, _⟩⟩
  rotate_left
  · exfalso
    exact hbad (by unfold Q5 at hM; omega)
  simp only at hv4 X4 c4
  subst hv4
  have hG4 := X4.good hGT3
  have gR4 := X4.keep gR3 (by simp)
  have wR4 := X4.wrs wR3
  have hle4 := X4.le
  obtain ⟨T5, hT5⟩ : ∃ T5 : DS, T5 = s4.upd R (.cells (.list [.int .i64 (n : Int), .int .i64 (k : Int), .int .i64 rm, .int .i64 kd, .int .i64 lm, .int .i64 ev, .int .i64 pt, .pointer (some ⟨p, 0, none⟩), .int .i64 1, .int .i64 0, .int .i64 0, .pointer (some ⟨R + 1, 0, none⟩), .int .i64 0, .int .i64 0, .pointer (some ⟨T3.next, 0, none⟩), .pointer none, .int .i64 0, .slice none 0 0, .slice none 0 0, .slice none 0 0, .slice (some ⟨s3.next, 0, none⟩) n n, .map (some (s3.next + 1)), .map (some (s3.next + 2)), .map (some (s3.next + 3)), .map (some (s3.next + 4)), .map (some (s3.next + 5)), .map (some (s3.next + 6)), .int .i64 0, .slice none 0 0]) false) := ⟨_, rfl⟩
  have XT5 : Ext [R] s4 T5 := by rw [hT5]; exact Ext.upd (.inl (by simp))
  have hGT5 := XT5.good hG4
  have nT5 : T5.next = s4.next := by rw [hT5, DS.upd_next]
  have gR5 : T5.get R = some (.cells (.list [.int .i64 (n : Int), .int .i64 (k : Int), .int .i64 rm, .int .i64 kd, .int .i64 lm, .int .i64 ev, .int .i64 pt, .pointer (some ⟨p, 0, none⟩), .int .i64 1, .int .i64 0, .int .i64 0, .pointer (some ⟨R + 1, 0, none⟩), .int .i64 0, .int .i64 0, .pointer (some ⟨T3.next, 0, none⟩), .pointer none, .int .i64 0, .slice none 0 0, .slice none 0 0, .slice none 0 0, .slice (some ⟨s3.next, 0, none⟩) n n, .map (some (s3.next + 1)), .map (some (s3.next + 2)), .map (some (s3.next + 3)), .map (some (s3.next + 4)), .map (some (s3.next + 5)), .map (some (s3.next + 6)), .int .i64 0, .slice none 0 0]) false) := by rw [hT5, DS.upd_get_self, gR4]; rfl
  have wR5 := XT5.wrs wR4
  have c5 := c4.keep XT5 (by simp [own, blk]; omega)
  have hst5 := DS.get_lt' c5.gp
  simp (maxSteps := 4000000) (maxDischargeDepth := 8) only [zr, zf, zc, zg, zn, zt, ze, zu, Zi, zi, zM, Za, zH, WS, Yl, zB, zm, zl, zy, zd, zJ, zb, za, z0, z1, z5, getN, Nat.zero_add, Nat.reduceAdd, ZA, Xb, List.length_cons, List.length_nil, allOne, zQ, Bool.and_self, Bool.and_true, Nat.beq_eq, Nat.ble_eq, Nat.reduceLeDiff, if_true, DS.wrC, Cells.size, Cells.fillFrom, Cells.set, Zd, zZ, Xw, Nat.reduceLT, Nat.lt_add_one, gR4, wR4, ← hT5]
  have gs5 := XT5.keep (X4.keep gs3 (by simp)) (by simpa using hsR)
  have gl5 := XT5.keep (X4.keep gl3 (by simp)) (by simp)
  have gb5 := XT5.keep (X4.keep gb3 (by simp)) (by simp; omega)
  have gm5 := XT5.keep (X4.keep gm3 (by simp)) (by simp; omega)
  have wb5 := XT5.wrs (X4.wrs wb3)
  have wm5 := XT5.wrs (X4.wrs wm3)
  have X05 : Ext [] s T5 := (X03'.trans' X4).trans XT5 (by simp; omega)
  have htb := R9 hQ0 (d := d + 15) (s := T5)
  obtain ⟨T6, hT6⟩ : ∃ T6 : DS, T6 = (T5.new (.map [] 0)).new (.cells (.list [.map (some T5.next)]) false) := ⟨_, rfl⟩
  rw [← hT6] at htb
  have nT6 : T6.next = T5.next + 2 := by rw [hT6]; rfl
  have XT6 : Ext [] T5 T6 := by rw [hT6]; exact Ext.new.trans' Ext.new
  have hGT6 := XT6.good hGT5
  have gq6 : T6.get (T5.next + 1) = some (.cells (.list [.map (some T5.next)]) false) := by rw [hT6]; simp (maxSteps := 4000000) (maxDischargeDepth := 8) only [z7, zw, zK, hGT5]
  have gt6 : T6.get T5.next = some (.map [] 0) := by rw [hT6]; simp (maxSteps := 4000000) (maxDischargeDepth := 8) only [z7, zw, zE, zK, Nat.lt_add_one, hGT5]
  have gR6 := XT6.keep gR5 (by simp)
  have wR6 := XT6.wrs wR5
  have c6 := c5.keep XT6 (by simp)
  obtain ⟨T7, hT7⟩ : ∃ T7 : DS, T7 = T6.upd R (.cells (.list [.int .i64 (n : Int), .int .i64 (k : Int), .int .i64 rm, .int .i64 kd, .int .i64 lm, .int .i64 ev, .int .i64 pt, .pointer (some ⟨p, 0, none⟩), .int .i64 1, .int .i64 0, .int .i64 0, .pointer (some ⟨R + 1, 0, none⟩), .int .i64 0, .int .i64 0, .pointer (some ⟨T3.next, 0, none⟩), .pointer (some ⟨T5.next + 1, 0, none⟩), .int .i64 0, .slice none 0 0, .slice none 0 0, .slice none 0 0, .slice (some ⟨s3.next, 0, none⟩) n n, .map (some (s3.next + 1)), .map (some (s3.next + 2)), .map (some (s3.next + 3)), .map (some (s3.next + 4)), .map (some (s3.next + 5)), .map (some (s3.next + 6)), .int .i64 0, .slice none 0 0]) false) := ⟨_, rfl⟩
  have XT7 : Ext [R] T6 T7 := by rw [hT7]; exact Ext.upd (.inl (by simp))
  have hGT7 := XT7.good hGT6
  have hRT : R < T3.next := by omega
  have gR7 : T7.get R = some (.cells (.list [.int .i64 (n : Int), .int .i64 (k : Int), .int .i64 rm, .int .i64 kd, .int .i64 lm, .int .i64 ev, .int .i64 pt, .pointer (some ⟨p, 0, none⟩), .int .i64 1, .int .i64 0, .int .i64 0, .pointer (some ⟨R + 1, 0, none⟩), .int .i64 0, .int .i64 0, .pointer (some ⟨T3.next, 0, none⟩), .pointer (some ⟨T5.next + 1, 0, none⟩), .int .i64 0, .slice none 0 0, .slice none 0 0, .slice none 0 0, .slice (some ⟨s3.next, 0, none⟩) n n, .map (some (s3.next + 1)), .map (some (s3.next + 2)), .map (some (s3.next + 3)), .map (some (s3.next + 4)), .map (some (s3.next + 5)), .map (some (s3.next + 6)), .int .i64 0, .slice none 0 0]) false) := by rw [hT7, DS.upd_get_self, gR6]; rfl
  have wR7 := XT7.wrs wR6
  have gs7 := XT7.keep (XT6.keep gs5 (by simp)) (by simpa using hsR)
  have gl7 := XT7.keep (XT6.keep gl5 (by simp)) (by simp)
  have gb7 := XT7.keep (XT6.keep gb5 (by simp)) (by simp; omega)
  have gm7 := XT7.keep (XT6.keep gm5 (by simp)) (by simp; omega)
  have wb7 := XT7.wrs (XT6.wrs wb5)
  have wm7 := XT7.wrs (XT6.wrs wm5)
  have gq7 := XT7.keep gq6 (by simp; omega)
  have gt7 := XT7.keep gt6 (by simp; omega)
  have c7 := c6.keep XT7 (by simp [own, blk]; omega)
  have X07 : Ext [] s T7 := (X05.trans' XT6).trans XT7 (by simp; omega)
  obtain ⟨T8, hT8⟩ : ∃ T8 : DS, T8 = T7.upd s3.next (.cells (.list (Zd (repeatZ [.int .i64 0] n) k (.int .i64 b))) false) := ⟨_, rfl⟩
  have XT8 : Ext [s3.next] T7 T8 := by rw [hT8]; exact Ext.upd (.inl (by simp))
  have hGT8 := XT8.good hGT7
  have gR8 := XT8.keep gR7 (by simp; omega)
  have wR8 := XT8.wrs wR7
  have gl8 := XT8.keep gl7 (by simp; omega)
  have gm8 := XT8.keep gm7 (by simp)
  have wm8 := XT8.wrs wm7
  have gq8 := XT8.keep gq7 (by simp; omega)
  have gt8 := XT8.keep gt7 (by simp; omega)
  have c8 := c7.keep XT8 (by simp [own, blk]; omega)
  have X08 : Ext [] s T8 := X07.trans XT8 (by simp; omega)
  have hrl : (repeatZ [.int .i64 0] n : List Value).length = n := by rw [WF]; simp
  have hkn' : (k < n) = True := eq_true hkn
  have hkn2 : (k + 1 ≤ n) = True := eq_true hkn
  have hfin : ∀ (t : PT Value) (T : DS) (sv : Int) (L : List Value), t.get 8 = some (.pointer (some ⟨R, 0, none⟩)) → Ext [] s T → T.Good → T.get R = some (.cells (.list L) false) → getN L 8 = some (.int .i64 sv) → getN L 9 = some (.int .i64 0) → getN L 11 = some (.pointer (some ⟨R + 1, 0, none⟩)) → getN L 12 = some (.int .i64 0) → getN L 13 = some (.int .i64 0) → getN L 14 = some (.pointer (some ⟨T3.next, 0, none⟩)) → getN L 15 = some (.pointer (some ⟨T5.next + 1, 0, none⟩)) → getN L 21 = some (.map (some (s3.next + 1))) → T.get (R + 1) = some (.cells (.list [.int .i64 0, .slice none 0 0]) false) → T.get (s3.next + 1) = some (.map [] 0) → T.wr (s3.next + 1) = true → T.get (T5.next + 1) = some (.cells (.list [.map (some T5.next)]) false) → T.get T5.next = some (.map [] 0) → Qd T T3.next (.slice none 0 0) (.slice none 0 0) [] rm → sv = (if 0 < b then 3 else 1) → WC (dcall E (d + 16)) E.lf false NI ⟨t, T, []⟩ (Ends [.tmp 4, .tmp 5] Q) := by
   intro t T sv L t8 XT hGT gR l8 l9 l11 l12 l13 l14 l15 l21 gl gm wm gq gt c hsv
   have hRl := DS.get_lt' gR
   simp (maxSteps := 4000000) (maxDischargeDepth := 8) only [zr, zf, W5, KO, YN, zu, zi, zM, Za, zH, Zh, zB, zm, zl, zy, zd, zb, za, z0, z1, z4, z5, zC, Cells.get, Nat.zero_add, List.nil_append, List.cons_append, pp, pv, foot, zZ, Nat.reduceLT, NI, t8, gR, l21]
   refine W.masked (hQ0.fr _) (Pa hQ0 hC hP hF hI hB hC2 hT (d := d) (rm := rm) (R := R) (st := T3.next) (tb := T5.next + 1) (m := T5.next) (clock := 0) (l := L) ((YT ?_).trans gR) l14 l15 (c.mask fun k' hk => ?_) (by unfold Q5 at hM; omega) ((YT ?_).trans gq) ((YT ?_).trans gt) (XW hGT fun k' hk => ?_) (by omega) (by omega) (by omega)) ?_
   · (simp only [hidden, shielded, noteAt, Z7, Bool.or_false, Bool.or_eq_false_iff, Bool.and_eq_false_iff, YB, YO, YW, true_and, and_true, true_or, or_true] <;> omega)
   · have : k' = T3.next := by simpa [own, blk] using hk
     exact ⟨by (simp only [hidden, shielded, noteAt, Z7, Bool.or_false, Bool.or_eq_false_iff, Bool.and_eq_false_iff, YB, YO, YW, true_and, and_true, true_or, or_true] <;> omega), by (simp only [hidden, shielded, noteAt, Z7, Bool.or_false, Bool.or_eq_false_iff, Bool.and_eq_false_iff, YB, YO, YW, true_and, and_true, true_or, or_true] <;> omega)⟩
   · (simp only [hidden, shielded, noteAt, Z7, Bool.or_false, Bool.or_eq_false_iff, Bool.and_eq_false_iff, YB, YO, YW, true_and, and_true, true_or, or_true] <;> omega)
   · (simp only [hidden, shielded, noteAt, Z7, Bool.or_false, Bool.or_eq_false_iff, Bool.and_eq_false_iff, YB, YO, YW, true_and, and_true, true_or, or_true] <;> omega)
   · exact ⟨by (simp only [hidden, shielded, noteAt, Z7, Bool.or_false, Bool.or_eq_false_iff, Bool.and_eq_false_iff, YB, YO, YW, true_and, and_true, true_or, or_true] <;> omega), by (simp only [hidden, shielded, noteAt, Z7, Bool.or_false, Bool.or_eq_false_iff, Bool.and_eq_false_iff, YB, YO, YW, true_and, and_true, true_or, or_true] <;> omega)⟩
   rintro v9 s9 ⟨⟨o, hO, h9⟩, X9⟩ df
   simp only at h9 X9
   subst h9
   have X9' := Ext.unmask' X9 df
   obtain ⟨S9, hS9⟩ : ∃ S9 : DS, S9 = YE T s9 := ⟨_, rfl⟩
   have n9 : s9.next = S9.next := by rw [hS9]; rfl
   rw [← hS9] at X9'
   have gR9 := X9'.keep gR (by simp)
   have gl9 := X9'.keep gl (by simp)
   have gm9 := X9'.keep gm (by simp)
   have wm9 := X9'.wrs wm
   have c9 := c.keep X9' (by simp)
   have hk9 : isKey .num (.int .i64 0) = true := rfl
   have hf9 : XL .num (.int .i64 0) [] 0 = some none := rfl
   obtain ⟨SA, hSA⟩ : ∃ SA : DS, SA = S9.upd (s3.next + 1) (.map [⟨.int .i64 0, .agg ⟨o⟩, 0⟩] 1) := ⟨_, rfl⟩
   have XA : Ext [s3.next + 1] S9 SA := by rw [hSA]; exact Ext.upd (.inl (by simp))
   have gRA := XA.keep gR9 (by simp; omega)
   have glA := XA.keep gl9 (by simp; omega)
   have cA := c9.keep XA (by simp [own, blk]; omega)
   simp (maxSteps := 4000000) (maxDischargeDepth := 8) only [zr, zf, zI, zc, zg, zn, zt, W5, ze, YN, Xp, zi, zM, N0, zG, zx, zl, zk, zd, zJ, zb, za, z0, z1, zo, zz, Nat.zero_add, if_true, List.nil_append, List.cons_append, Option.isSome_some, DS.set_upd, foot, zZ, Nat.reduceLT, Nat.lt_add_one, ← hS9, n9, gm9, wm9, hk9, hf9, ← hSA, t8]
   refine hQ _ ⟨((XT.trans' X9').trans XA (by simp; omega)), .inl ⟨hR, R, R + 1, T3.next, rfl, ⟨⟨L, gRA, ?_, l9, l11, l12, l13, l14⟩, glA, cA⟩⟩⟩
   rw [l8, hsv]
  simp (maxSteps := 4000000) (maxDischargeDepth := 8) only [zr, zf, zA, zc, zg, zn, zt, ze, zu, Zi, zi, zM, zT, Za, zH, GO, Zh, Yl, zm, zY, zP, zl, zk, zd, zJ, zb, za, z0, zq, List.getElem?_cons_zero, List.getElem?_cons_succ, z1, zC, Cells.get, getN, Nat.zero_add, Nat.reduceAdd, ZA, Zg, Xb, List.length_cons, List.length_nil, allOne, zQ, Bool.and_self, Bool.and_true, Nat.beq_eq, Nat.ble_eq, Nat.blt_eq, Nat.reduceLeDiff, if_true, DS.wrC, Cells.size, Cells.fillFrom, Cells.set, Zd, zW, Nat.mul_one, zZ, Nat.reduceLT, Nat.lt_add_one, htb, gR6, wR6, ← hT7, gR7, gs7, gb7, wb7, hkn', hkn2, hrl, ← hT8]
  have gb8n := gb7
  by_cases hb0 : 0 < b
  · obtain ⟨T9, hT9⟩ : ∃ T9 : DS, T9 = T8.upd R (.cells (.list [.int .i64 (n : Int), .int .i64 (k : Int), .int .i64 rm, .int .i64 kd, .int .i64 lm, .int .i64 ev, .int .i64 pt, .pointer (some ⟨p, 0, none⟩), .int .i64 3, .int .i64 0, .int .i64 0, .pointer (some ⟨R + 1, 0, none⟩), .int .i64 0, .int .i64 0, .pointer (some ⟨T3.next, 0, none⟩), .pointer (some ⟨T5.next + 1, 0, none⟩), .int .i64 0, .slice none 0 0, .slice none 0 0, .slice none 0 0, .slice (some ⟨s3.next, 0, none⟩) n n, .map (some (s3.next + 1)), .map (some (s3.next + 2)), .map (some (s3.next + 3)), .map (some (s3.next + 4)), .map (some (s3.next + 5)), .map (some (s3.next + 6)), .int .i64 0, .slice none 0 0]) false) := ⟨_, rfl⟩
    have XT9 : Ext [R] T8 T9 := by rw [hT9]; exact Ext.upd (.inl (by simp))
    have gR9 : T9.get R = some (.cells (.list [.int .i64 (n : Int), .int .i64 (k : Int), .int .i64 rm, .int .i64 kd, .int .i64 lm, .int .i64 ev, .int .i64 pt, .pointer (some ⟨p, 0, none⟩), .int .i64 3, .int .i64 0, .int .i64 0, .pointer (some ⟨R + 1, 0, none⟩), .int .i64 0, .int .i64 0, .pointer (some ⟨T3.next, 0, none⟩), .pointer (some ⟨T5.next + 1, 0, none⟩), .int .i64 0, .slice none 0 0, .slice none 0 0, .slice none 0 0, .slice (some ⟨s3.next, 0, none⟩) n n, .map (some (s3.next + 1)), .map (some (s3.next + 2)), .map (some (s3.next + 3)), .map (some (s3.next + 4)), .map (some (s3.next + 5)), .map (some (s3.next + 6)), .int .i64 0, .slice none 0 0]) false) := by rw [hT9, DS.upd_get_self, gR8]; rfl
    simp (maxSteps := 4000000) (maxDischargeDepth := 8) only [zf, zc, zg, zn, zt, zS, ze, zu, Zi, zi, zM, Za, zH, Yl, zm, zl, zk, zd, zJ, zb, za, z0, z1, Nat.zero_add, Nat.reduceAdd, ZA, Zg, List.length_cons, List.length_nil, allOne, zQ, Bool.and_self, Bool.and_true, Nat.beq_eq, Nat.ble_eq, Nat.reduceLeDiff, if_true, DS.wrC, Cells.size, Cells.fillFrom, Cells.set, Zd, decide_true, zZ, Nat.reduceLT, hb0, gR8, wR8, ← hT9]
    exact hfin _ T9 3 _ (by simp (maxSteps := 4000000) only [zb, za, Nat.reduceEqDiff, z0]) (X08.trans XT9 (by simp; omega)) (XT9.good hGT8) gR9 rfl rfl rfl rfl rfl rfl rfl rfl (XT9.keep gl8 (by simp)) (XT9.keep gm8 (by simp; omega)) (XT9.wrs wm8) (XT9.keep gq8 (by simp; omega)) (XT9.keep gt8 (by simp; omega)) (c8.keep XT9 (by simp [own, blk]; omega)) (if_pos hb0).symm
  · simp (maxSteps := 4000000) (maxDischargeDepth := 8) only [zO, zc, zv, decide_false, hb0]
    exact hfin _ T8 1 _ (by simp (maxSteps := 4000000) only [zb, za, Nat.reduceEqDiff, z0]) X08 hGT8 gR8 rfl rfl rfl rfl rfl rfl rfl rfl gl8 gm8 wm8 gq8 gt8 c8 (if_neg hb0).symm
end
end Go.Dx.RpA
