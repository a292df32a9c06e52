/- A part. -/
import Derived.Test.YtpfkbiaikfbpeaaGreatQ1Nw
set_option linter.unusedVariables false
set_option linter.unusedSimpArgs false
set_option linter.unusedSectionVars false
set_option maxRecDepth 100000
set_option maxHeartbeats 8000000
namespace Go.Dx.RpA
open Go Go.Dx Go.Dx.Search Go.Dx.St Go.Proofs.YtpfkbiaikfbpeaaGreat
section
variable {E : Env} (hQ0 : CS E) (hC : CFns E) (hP : Dw E) (hF : Fns E) (hI : Its E) (hB : RR E) (hC2 : RpB.CFns E) (hT : RpB.TbFns E) (hK : CT E) {s : DS} {d : Nat} {c me rm kd lm ev pt b : Int}
include hQ0 hC hP hF hI hB hC2 hT
omit hC hP hF hI hB hC2 hT in
include hK in
theorem C8 {R lg st : Nat} {l : List Value} {state : Int} (g : s.get R = some (.cells (.list l) false)) (h : getN l 14 = some (.pointer (some ⟨st, 0, none⟩))) (cs : Qd s st (.slice none 0 0) (.slice none 0 0) [] rm) (hG : s.Good) :
 W (dcall E (d + 3) (.func (.func 7) #[] #[]) [.pointer (some ⟨R, 0, none⟩)] s) fun r => ∃ p' kv' vv', r.1 = .pointer (some ⟨p', 0, none⟩) ∧ Qd r.2 p' kv' vv' [] rm ∧ Ext [] s r.2 ∧ ∀ k, k ∈ own p' kv' vv' → s.next ≤ k := by
 refine Zz fun Q hQ => ?_
 rw [zF hQ0.iQStore hQ0.fQStore rfl]
 simp (maxSteps := 4000000) only [zr, zf, zA, zO, zc, zg, zn, zt, zv, ze, zu, ZF, zi, zM, Z8, Za, zH, Zh, zB, zm, Zl, zl, zk, zy, zd, zb, za, z0, zq, List.getElem?_cons_zero, z1, z4, z5, zC, Cells.get, Nat.zero_add, if_false, reduceCtorEq, Bool.not_false, z3, pp, pv, d7, g, h]
 refine W.mono (PU hK (d := d) cs hG) ?_
 rintro ⟨v1, s1⟩ ⟨p', kv', vv', hv, c1, X1, n1⟩
 simp only at hv c1 X1 n1
 subst hv
 simp (maxSteps := 4000000) only [zI, zc, zg, zn, zt, ze, zi, zM, zx, zl, zd, zb, z1, zo, zz]
 exact hQ _ ⟨_, _, _, rfl, c1, X1, n1⟩
include hK in
theorem P7 {S : DS} {P : Nat} {t : PT Value} {vw : Int} {v7 v8 : Value} {Q : Value × DS → Prop} (h8 : E.intr 5 = some Ks) (hG : S.Good) (gS : S.get P = some (.cells (.list [.int .i64 c, .int .i64 me, .int .i64 rm, .int .i64 kd, .int .i64 lm, .int .i64 ev, .int .i64 pt]) false))
 (t1 : t.get 1 = some (.int .i64 b)) (t2 : t.get 2 = some (.int .i64 vw)) (t3 : t.get 3 = some (.pointer (some ⟨P, 0, none⟩))) (t7 : t.get 7 = some v7) (t8 : t.get 8 = some v8) (t9 : t.get 9 = some (.bool (decide (Zm c me rm kd lm ev pt b))))
 (hN : (Zm c me rm kd lm ev pt b ∧ ∃ R lg st, v7 = .pointer (some ⟨R, 0, none⟩) ∧ v8 = .int .i64 0 ∧ MY S R lg st rm (if 0 < b then 3 else 1)) ∨ (¬ Zm c me rm kd lm ev pt b ∧ v7 = .pointer none ∧ v8 = .int .i64 1))
 (hQ : ∀ S', Q (.bool true, S')) :
 WC (dcall E (d + 17)) E.lf false FQ ⟨t, S, []⟩ (Ends [.tmp 6] Q) := by
 have lv : ∀ dd s, dcall E (dd + 1) (.func (.func 5) #[] #[]) [] s = some (.bool true, s) := fun _ _ => J0 h8 rfl
 have hld := fun v n => DM hQ0 (d := d + 16) (s := S) v n
 rcases hN with ⟨hR, R, lg, st, rfl, rfl, hq⟩ | ⟨hR, rfl, rfl⟩
 · rw [decide_eq_true hR] at t9
   have hc1 : 1 ≤ c := by unfold Zm at hR; omega
   have hc0 : ¬ c = 0 := by omega
   have hcl : ¬ c < 1 := by omega
   obtain ⟨⟨l, gR, l8, l9, l11, l12, l13, l14⟩, gl, cs⟩ := hq
   have key : ∀ (tt : PT Value), tt.get 3 = some (.pointer (some ⟨P, 0, none⟩)) → tt.get 1 = some (.int .i64 b) → tt.get 7 = some (.pointer (some ⟨R, 0, none⟩)) → WC (dcall E (d + 17)) E.lf false Pm ⟨tt, S, []⟩ (Ends [.tmp 6] Q) := fun tt t3 t1 t7 => by
    have go : ∀ (want : Int), (if 0 < b then (3 : Int) else 1) = want → ∀ (tt : PT Value), tt.get 3 = some (.pointer (some ⟨P, 0, none⟩)) → tt.get 7 = some (.pointer (some ⟨R, 0, none⟩)) → tt.get 11 = some (.int .i64 want) → WC (dcall E (d + 17)) E.lf false NL ⟨tt, S, []⟩ (Ends [.tmp 6] Q) := fun want hw tt t3 t7 t11 => by
     rw [hw] at l8
     simp (maxSteps := 4000000) only [zr, zf, zt, ze, zM, zB, zl, zy, zd, zb, z1, z4, z5, pp, pv, NL, t7]
     refine W.mono (C8 hQ0 hK (d := d + 14) (lg := lg) (state := want) gR l14 cs hG) ?_
     rintro ⟨v1, s1⟩ ⟨p', kv', vv', hv, c1, X1, n1⟩
     simp only at hv c1 X1 n1
     subst hv
     have gR1 := X1.keep gR (by simp)
     have gl1 := X1.keep gl (by simp)
     have gS1 := X1.keep gS (by simp)
     have hPl := DS.get_lt' gS
     have e1 := C9 hQ0 (d := d + 16) gR1 l8
     have e2 := Sx hQ0 (d := d + 16) gR1 l9
     have e3 := DN hQ0 (d := d + 16) gR1 l12
     have e4 := SC hQ0 (d := d + 16) gR1 l13
     have e5 := SB hQ0 (d := d + 15) gR1 l11 gl1
     have e6 := N6 hF (d := d + 16) c1
     have hwant : (want = want) = True := eq_true rfl
     have hrm : (rm = rm) = True := eq_true rfl
     simp (maxSteps := 4000000) only [zr, zf, zc, zg, zn, zt, W5, ZK, KO, z8, ze, YN, zu, ZF, zi, zM, zU, zT, Z8, zH, Zh, zB, zm, zY, zP, Zl, zl, zk, zy, zd, zb, za, Nat.reduceEqDiff, z0, z1, z4, z5, zC, Cells.get, getN, Nat.zero_add, List.length_nil, if_true, Bool.not_false, List.nil_append, List.cons_append, decide_true, foot, t3, t7, t11, e1, e2, e3, e4, e5, e6, gS1, hwant, hrm, List.length_nil, Int.natCast_zero]
     have e7 : ∀ nt haz, (∀ k, S.next ≤ k → hidden nt haz k = false ∧ shielded nt haz k = false) → dcall E (d + 17) (.func (.func 14) #[] #[]) [.pointer (some ⟨p', 0, none⟩)] (mask s1 nt haz) = some (.int .i64 rm, mask s1 nt haz) := fun nt haz h => Sy hQ0 (d := d + 16) (c1.mask fun k hk => h k (n1 k hk))
     rw [e7]
     rotate_left
     · intro k hk
       have : ¬ k = P := by omega
       exact ⟨by (simp only [hidden, shielded, noteAt, Z7, Bool.or_false, Bool.or_eq_false_iff, Bool.and_eq_false_iff, YB, YO, YW, true_and, and_true, true_or, or_true] <;> omega), by (simp only [hidden, shielded, noteAt, Z7, Bool.or_false, Bool.or_eq_false_iff, Bool.and_eq_false_iff, YB, YO, YW, true_and, and_true, true_or, or_true] <;> omega)⟩
     simp (maxSteps := 4000000) only [zI, zc, zg, zn, W5, ZK, z8, YN, Xp, zu, zi, zM, zU, zT, zm, zY, zP, zx, zl, zk, zd, zb, za, Nat.reduceEqDiff, z0, z1, zo, zz, if_true, List.nil_append, List.cons_append, Mx, Fu, decide_true, foot, t3, t7, t11, hwant, hrm]
     exact hQ _
    by_cases hb : 0 < b
    · simp (maxSteps := 4000000) only [zr, zf, zA, zc, zg, zn, zt, zS, ze, zu, zi, zM, zT, zY, zP, zl, zk, zd, zb, za, Nat.reduceEqDiff, z0, z1, if_true, pp, pv, decide_true, Pm, t1, hb]
      exact go 3 (if_pos hb) _ (by simp (maxSteps := 4000000) only [za, Nat.reduceEqDiff, z0, t3]) (by simp (maxSteps := 4000000) only [za, Nat.reduceEqDiff, z0, t7]) (by simp (maxSteps := 4000000) only [zb])
    · simp (maxSteps := 4000000) only [zr, zf, zA, zO, zc, zg, zn, zt, zv, ze, zu, zi, zM, zT, zY, zP, zl, zk, zd, zb, za, Nat.reduceEqDiff, z0, z1, if_true, pp, pv, decide_false, Pm, t1, hb]
      exact go 1 (if_neg hb) _ (by simp (maxSteps := 4000000) only [za, Nat.reduceEqDiff, z0, t3]) (by simp (maxSteps := 4000000) only [za, Nat.reduceEqDiff, z0, t7]) (by simp (maxSteps := 4000000) only [zb, za, Nat.reduceEqDiff, z0])
   by_cases hv : vw < 0
   · have hv2 : ¬ 0 ≤ vw := by omega
     have e := hld vw c
     rw [if_pos (.inl hv)] at e
     simp (maxSteps := 4000000) only [zr, zf, zA, zO, zc, zg, zn, zt, ZK, Zu, zV, zv, ze, zu, ZF, zi, zM, zU, zT, Z8, Jn, zH, Zh, zB, zm, zY, zP, Zl, zl, zk, zy, zd, zb, za, Nat.reduceEqDiff, z0, z1, z4, z5, zC, Cells.get, getN, if_true, if_false, Bool.not_true, Bool.not_false, z3, List.nil_append, pp, pv, pw, pg, Nat.add_zero, decide_true, decide_false, FQ, t1, t2, t3, t7, t8, t9, lv, gS, e, hv2, beq_self_eq_true, Bool.not_true, Bool.not_false]
     exact key _ (by simp (maxSteps := 4000000) only [za, Nat.reduceEqDiff, z0, t3]) (by simp (maxSteps := 4000000) only [za, Nat.reduceEqDiff, z0, t1]) (by simp (maxSteps := 4000000) only [za, Nat.reduceEqDiff, z0, t7])
   · have hv2 : 0 ≤ vw := by omega
     have e := hld vw c
     rw [if_neg (fun h => h.elim hv hcl)] at e
     have hself : (vw.tmod c = vw.tmod c) = True := eq_true rfl
     simp (maxSteps := 4000000) only [zr, zf, zA, zO, zc, zg, zn, zt, ZK, z8, Zu, zV, zS, zv, ze, zu, ZF, zi, zM, zU, zT, Z8, Jn, zH, Zh, zB, zm, zY, zP, Zl, zl, zk, zy, zd, zb, za, Nat.reduceEqDiff, z0, z1, z4, z5, zC, Cells.get, getN, if_true, if_false, Bool.not_true, Bool.not_false, z3, List.nil_append, pp, pv, pw, pg, Nat.add_zero, decide_true, FQ, t1, t2, t3, t7, t8, t9, lv, gS, e, hv2, hc1, hc0, hself, beq_self_eq_true, Bool.not_true, Bool.not_false]
     exact key _ (by simp (maxSteps := 4000000) only [za, Nat.reduceEqDiff, z0, t3]) (by simp (maxSteps := 4000000) only [za, Nat.reduceEqDiff, z0, t1]) (by simp (maxSteps := 4000000) only [za, Nat.reduceEqDiff, z0, t7])
 · rw [decide_eq_false hR] at t9
   by_cases hv : vw < 0
   · have hv2 : ¬ 0 ≤ vw := by omega
     have e := hld vw c
     rw [if_pos (.inl hv)] at e
     simp (maxSteps := 4000000) only [zr, zf, zA, zO, zI, zc, ZE, zg, zn, zt, ZK, z8, Zu, zV, zS, zv, ze, zu, ZF, zi, zM, zU, zT, Z8, Jn, zH, Zh, zB, zm, zY, zP, Zl, zx, zl, zk, zy, zd, zb, za, Nat.reduceEqDiff, z0, z1, zo, zz, z4, z5, zC, Cells.get, getN, if_true, if_false, Bool.not_true, Bool.not_false, z3, List.nil_append, pp, pv, pw, pg, Nat.add_zero, decide_true, decide_false, Int.reduceEq, Option.isNone_none, FQ, t1, t2, t3, t7, t8, t9, lv, gS, e, hv2, beq_self_eq_true, Bool.not_true, Bool.not_false]
     exact hQ _
   · have hv2 : 0 ≤ vw := by omega
     by_cases hc : c < 1
     · have hc1 : ¬ 1 ≤ c := by omega
       have e := hld vw c
       rw [if_pos (.inr hc)] at e
       simp (maxSteps := 4000000) only [zr, zf, zA, zO, zI, zc, ZE, zg, zn, zt, ZK, z8, zV, zS, zv, ze, zu, ZF, zi, zM, zU, zT, Z8, Jn, zH, Zh, zB, zm, zY, zP, Zl, zx, zl, zk, zy, zd, zb, za, Nat.reduceEqDiff, z0, z1, zo, zz, z4, z5, zC, Cells.get, getN, if_true, if_false, Bool.not_true, Bool.not_false, z3, pp, pv, pw, pg, Nat.add_zero, decide_true, decide_false, Int.reduceEq, Option.isNone_none, FQ, t1, t2, t3, t7, t8, t9, lv, gS, e, hv2, hc1, beq_self_eq_true, Bool.not_true, Bool.not_false]
       exact hQ _
     · have hc1 : 1 ≤ c := by omega
       have hc0 : ¬ c = 0 := by omega
       have e := hld vw c
       rw [if_neg (fun h => h.elim hv hc)] at e
       have hself : (vw.tmod c = vw.tmod c) = True := eq_true rfl
       simp (maxSteps := 4000000) only [zr, zf, zA, zO, zI, zc, ZE, zg, zn, zt, ZK, z8, zV, zS, zv, ze, zu, ZF, zi, zM, zU, zT, Z8, Jn, zH, Zh, zB, zm, zY, zP, Zl, zx, zl, zk, zy, zd, zb, za, Nat.reduceEqDiff, z0, z1, zo, zz, z4, z5, zC, Cells.get, getN, if_true, if_false, Bool.not_true, Bool.not_false, z3, pp, pv, pw, pg, Nat.add_zero, decide_true, decide_false, Int.reduceEq, Option.isNone_none, FQ, t1, t2, t3, t7, t8, t9, lv, gS, e, hv2, hc1, hc0, hself, beq_self_eq_true, Bool.not_true, Bool.not_false]
       exact hQ _
include hK in
theorem N8 (h8 : E.intr 5 = some Ks) (hG : s.Good) {vw : Int} : W (dcall E (d + 18) (.func (.func 3) #[] #[]) [.agg ⟨[.int .i64 c, .int .i64 me, .int .i64 rm, .int .i64 kd, .int .i64 lm, .int .i64 ev, .int .i64 pt]⟩, .int .i64 b, .int .i64 vw] s) fun r => r.1 = .bool true := by
 rw [zF hQ0.iQlaw hQ0.fQlaw rfl]
 obtain ⟨S, hS⟩ : ∃ S : DS, S = s.new (.cells (.list [.int .i64 c, .int .i64 me, .int .i64 rm, .int .i64 kd, .int .i64 lm, .int .i64 ev, .int .i64 pt]) false) := ⟨_, rfl⟩
 have X : Ext [] s S := by rw [hS]; exact Ext.new
 have g : S.get s.next = some (.cells (.list [.int .i64 c, .int .i64 me, .int .i64 rm, .int .i64 kd, .int .i64 lm, .int .i64 ev, .int .i64 pt]) false) := by rw [hS]; exact DS.new_get_self hG
 have hG1 := X.good hG
 have hld : ldA 7 (.pointer (some ⟨s.next, 0, none⟩)) S = some (.agg ⟨[.int .i64 c, .int .i64 me, .int .i64 rm, .int .i64 kd, .int .i64 lm, .int .i64 ev, .int .i64 pt]⟩) := by
  simp only [ldA, DS.read, g]
  rfl
 simp (maxSteps := 4000000) (maxDischargeDepth := 8) only [zr, zf, zc, zg, zn, zt, ze, zu, zi, zM, Z4, zB, zl, zk, zy, zd, zb, za, z0, zq, List.getElem?_cons_zero, List.getElem?_cons_succ, z1, z4, z5, zD, pp, pv, Q3, zZ, Nat.reduceLT, Nat.lt_add_one, Nd, ← hS, hld]
 refine W.mono (Pb hQ0 hC hP hF hI hB hC2 hT (d := d) (c := c) (me := me) (rm := rm) (kd := kd) (lm := lm) (ev := ev) (pt := pt) (b := b) hG1) ?_
 rintro ⟨v1, s1⟩ ⟨X1, h⟩
 simp only at X1 h
 have g1 := X1.keep g (by simp)
 have hG2 := X1.good hG1
 rcases h with ⟨hR, R, lg, st, rfl, hq⟩ | ⟨hR, rfl⟩
 · simp (maxSteps := 4000000) only [zc, zg, zn, zt, ze, zu, zi, zM, WS, zm, zl, zd, zb, za, Nat.reduceEqDiff, z0, z1, getN]
   refine Sz hQ0 (b := b) (vw := vw) (P := s.next) (v7 := .pointer (some ⟨R, 0, none⟩)) (v8 := .int .i64 0) g1 (by simp (maxSteps := 4000000) only [za, Nat.reduceEqDiff, z0, zq, List.getElem?_cons_zero, List.getElem?_cons_succ]) (by simp (maxSteps := 4000000) only [za, Nat.reduceEqDiff, z0, zq, List.getElem?_cons_zero, List.getElem?_cons_succ]) (by simp (maxSteps := 4000000) only [zb, za, Nat.reduceEqDiff, z0]) (by simp (maxSteps := 4000000) only [zb, za, Nat.reduceEqDiff, z0]) (by simp (maxSteps := 4000000) only [zb]) ?_
   rintro t' ⟨t1, t2, t3, t7, t8⟩ t9
   exact P7 hQ0 hC hP hF hI hB hC2 hT hK (d := d) h8 hG2 g1 t1 t2 t3 t7 t8 t9 (.inl ⟨hR, R, lg, st, rfl, rfl, hq⟩) (fun _ => rfl)
 · simp (maxSteps := 4000000) only [zc, zg, zn, zt, ze, zu, zi, zM, WS, zm, zl, zd, zb, za, Nat.reduceEqDiff, z0, z1, getN]
   refine Sz hQ0 (b := b) (vw := vw) (P := s.next) (v7 := .pointer none) (v8 := .int .i64 1) g1 (by simp (maxSteps := 4000000) only [za, Nat.reduceEqDiff, z0, zq, List.getElem?_cons_zero, List.getElem?_cons_succ]) (by simp (maxSteps := 4000000) only [za, Nat.reduceEqDiff, z0, zq, List.getElem?_cons_zero, List.getElem?_cons_succ]) (by simp (maxSteps := 4000000) only [zb, za, Nat.reduceEqDiff, z0]) (by simp (maxSteps := 4000000) only [zb, za, Nat.reduceEqDiff, z0]) (by simp (maxSteps := 4000000) only [zb]) ?_
   rintro t' ⟨t1, t2, t3, t7, t8⟩ t9
   exact P7 hQ0 hC hP hF hI hB hC2 hT hK (d := d) h8 hG2 g1 t1 t2 t3 t7 t8 t9 (.inr ⟨hR, rfl, rfl⟩) (fun _ => rfl)
end
end Go.Dx.RpA
