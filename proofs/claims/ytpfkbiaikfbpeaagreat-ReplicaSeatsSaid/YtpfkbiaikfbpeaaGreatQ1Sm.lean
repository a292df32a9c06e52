/- A part. -/
import Derived.Test.YtpfkbiaikfbpeaaGreatQ1Se
set_option linter.unusedVariables false
set_option linter.unusedSimpArgs false
set_option linter.unusedSectionVars false
set_option maxRecDepth 100000
set_option maxHeartbeats 8000000
namespace Go.Dx.RpA
open Go Go.Dx Go.Dx.Search Go.Dx.St Go.Proofs.YtpfkbiaikfbpeaaGreat
theorem Ni {n : Nat} {o : List Value} (h : U .u8 n o) : o = u8s ((List.range n).map (nAt o)) := by
 apply List.ext_getElem?
 intro i
 by_cases hi : i < n
 · have := h.2 i hi
   rw [ZJ] at this
   unfold u8s
   rw [this, List.getElem?_map, List.getElem?_map, List.getElem?_range hi]
   rfl
 · rw [List.getElem?_eq_none (by rw [h.1]; omega), List.getElem?_eq_none (by simp [u8s]; omega)]
section
variable {E : Env} (hQ0 : CS E) (hC : CFns E) (hP : Dw E) (hF : Fns E) (hI : Its E) (hB : RR E) (hC2 : RpB.CFns E) (hT : RpB.TbFns E) (hK : CT E) {s : DS} {d : Nat} {c me rm kd lm ev pt b : Int}
include hQ0 hC hP hF hI hB hC2 hT
theorem Pa {S : DS} {R st tb m clock : Nat} {l : List Value} (gR : S.get R = some (.cells (.list l) false)) (h14 : getN l 14 = some (.pointer (some ⟨st, 0, none⟩))) (h15 : getN l 15 = some (.pointer (some ⟨tb, 0, none⟩)))
 (cs : Qd S st (.slice none 0 0) (.slice none 0 0) [] rm) (hrm : 0 ≤ rm ∧ rm ≤ 4096) (gp : S.get tb = some (.cells (.list [.map (some m)]) false)) (gm : S.get m = some (.map [] clock)) (hG : S.Good) (hn1 : R ≠ st) (hn2 : R ≠ tb) (hn3 : R ≠ m) :
 W (dcall E (d + 16) (.func (.func 21) #[] #[]) [.pointer (some ⟨R, 0, none⟩)] S) fun r => (∃ o, U .u8 32 o ∧ r.1 = .agg ⟨o⟩) ∧ Ext [] S r.2 := by
 have hlf := hQ0.lf
 have hRl := DS.get_lt' gR
 have hsl := DS.get_lt' cs.gp
 have htl := DS.get_lt' gp
 have hml := DS.get_lt' gm
 refine Zz fun Q hQ => ?_
 rw [zF hQ0.iQsum hQ0.fQsum rfl]
 obtain ⟨S1, hS1⟩ : ∃ S1 : DS, S1 = S.new (.cells (.list (z6 .u8 32)) false) := ⟨_, rfl⟩
 have hz : ([.int .u8 0, .int .u8 0, .int .u8 0, .int .u8 0, .int .u8 0, .int .u8 0, .int .u8 0, .int .u8 0, .int .u8 0, .int .u8 0, .int .u8 0, .int .u8 0, .int .u8 0, .int .u8 0, .int .u8 0, .int .u8 0, .int .u8 0, .int .u8 0, .int .u8 0, .int .u8 0, .int .u8 0, .int .u8 0, .int .u8 0, .int .u8 0, .int .u8 0, .int .u8 0, .int .u8 0, .int .u8 0, .int .u8 0, .int .u8 0, .int .u8 0, .int .u8 0] : List Value) = z6 .u8 32 := rfl
 have X1 : Ext [] S S1 := by rw [hS1]; exact Ext.new
 have hG1 := X1.good hG
 have g0 : S1.get S.next = some (.cells (.list (z6 .u8 32)) false) := by rw [hS1]; exact DS.new_get_self hG
 have n1 : S1.next = S.next + 1 := by rw [hS1]; rfl
 have gR1 := X1.keep gR (by simp)
 simp (maxSteps := 4000000) (maxDischargeDepth := 8) only [zr, zf, zc, zg, zn, zt, W5, KO, ze, YN, zu, zi, zM, Za, zH, Zh, Zp, zB, zm, zl, zy, zd, zb, za, z0, zq, List.getElem?_cons_zero, z1, z4, z5, zC, Cells.get, Nat.zero_add, Nat.reduceAdd, List.nil_append, List.cons_append, pp, z7, foot, zZ, Xw, Nat.add_assoc, Nat.reduceLT, Nat.succ_pos, d21, hz, ← hS1, gR1, h14, h15]
 obtain ⟨S2, hS2⟩ : ∃ S2 : DS, S2 = (S1.new (.cells (.list (z6 .u8 32)) false)).new (.cells (.list (z6 .u8 32)) false) := ⟨_, rfl⟩
 rw [← hS2]
 have n2 : S2.next = S1.next + 2 := by rw [hS2]; rfl
 have X2 : Ext [] S1 S2 := by rw [hS2]; exact Ext.new.trans' Ext.new
 have hG2 := X2.good hG1
 have ga2 : S2.get S1.next = some (.cells (.list (z6 .u8 32)) false) := by rw [hS2]; simp (maxSteps := 4000000) (maxDischargeDepth := 8) only [z7, zw, zE, zK, Nat.lt_add_one, hG1]
 have gb2 : S2.get (S1.next + 1) = some (.cells (.list (z6 .u8 32)) false) := by rw [hS2]; simp (maxSteps := 4000000) (maxDischargeDepth := 8) only [z7, zw, zK, hG1]
 have wa2 : S2.wr S1.next = true := by rw [hS2]; exact (hG1 _ (Nat.le_refl _)).2
 have wb2 : S2.wr (S1.next + 1) = true := by rw [hS2]; exact (hG1 _ (Nat.le_succ _)).2
 have g02 := X2.keep g0 (by simp)
 have w02 : S2.wr S.next = true := X2.wrs (X1.wrs (hG _ (Nat.le_refl _)).2)
 have cs2 := cs.keep (X1.trans' X2) (by simp)
 clear hS2
 refine W.masked (hQ0.fr _) (Ty hC hP hF hI hB (d := d + 2) (cs2.mask fun k hk => ?_) (XW hG2 fun k hk => ?_) (by omega) (by simp) (by simp only [List.length_nil]; omega) hQ0.fdg hQ0.idg) ?_
 · have : k = st := by simpa [own, blk] using hk
   subst this
   have : ¬ k = R := fun h => hn1 h.symm
   exact ⟨by (simp only [hidden, shielded, noteAt, Z7, Bool.or_false, Bool.or_eq_false_iff, Bool.and_eq_false_iff, YB, YO, YW, true_and, and_true, true_or, or_true] <;> omega), by (simp only [hidden, shielded, noteAt, Z7, Bool.or_false, Bool.or_eq_false_iff, Bool.and_eq_false_iff, YB, YO, YW, true_and, and_true, true_or, or_true] <;> omega)⟩
 · exact ⟨by (simp only [hidden, shielded, noteAt, Z7, Bool.or_false, Bool.or_eq_false_iff, Bool.and_eq_false_iff, YB, YO, YW, true_and, and_true, true_or, or_true] <;> omega), by (simp only [hidden, shielded, noteAt, Z7, Bool.or_false, Bool.or_eq_false_iff, Bool.and_eq_false_iff, YB, YO, YW, true_and, and_true, true_or, or_true] <;> omega)⟩
 rintro v3 s3 ⟨h3, X3⟩ df
 simp only at h3 X3
 subst h3
 have X3' := Ext.unmask' X3 df
 obtain ⟨S3, hS3⟩ : ∃ S3 : DS, S3 = YE S2 s3 := ⟨_, rfl⟩
 have n3 : s3.next = S3.next := by rw [hS3]; rfl
 rw [← hS3] at X3'
 have hG3 := X3'.good hG2
 have hle3 := X3'.le
 obtain ⟨oa, hoa⟩ : ∃ o, o = QE [QG rm []] := ⟨_, rfl⟩
 have hOa : U .u8 32 oa := by rw [hoa]; exact V1 _
 rw [← hoa]
 simp (maxSteps := 4000000) (maxDischargeDepth := 8) only [KO, Xp, zB, zl, zy, zd, zb, za, z0, z1, z4, z5, List.nil_append, List.cons_append, foot, Xw, Nat.reduceLT, ← hS3, n3]
 have gp3 := X3'.keep (X2.keep (X1.keep gp (by simp)) (by simp)) (by simp)
 have gm3 := X3'.keep (X2.keep (X1.keep gm (by simp)) (by simp)) (by simp)
 refine W.masked (hQ0.fr _) (RpB.tdig_ok hC2 hT (d := d + 6) (p := tb) (m := m) (clock := clock) hB ((YT ?_).trans gp3) ((YT ?_).trans gm3) (XW hG3 fun k hk => ?_)) ?_
 · (simp only [hidden, shielded, noteAt, Z7, Bool.or_false, Bool.or_eq_false_iff, Bool.and_eq_false_iff, YB, YO, YW, true_and, and_true, true_or, or_true] <;> omega)
 · (simp only [hidden, shielded, noteAt, Z7, Bool.or_false, Bool.or_eq_false_iff, Bool.and_eq_false_iff, YB, YO, YW, true_and, and_true, true_or, or_true] <;> omega)
 · exact ⟨by (simp only [hidden, shielded, noteAt, Z7, Bool.or_false, Bool.or_eq_false_iff, Bool.and_eq_false_iff, YB, YO, YW, true_and, and_true, true_or, or_true] <;> omega), by (simp only [hidden, shielded, noteAt, Z7, Bool.or_false, Bool.or_eq_false_iff, Bool.and_eq_false_iff, YB, YO, YW, true_and, and_true, true_or, or_true] <;> omega)⟩
 rintro v4 s4 ⟨⟨ob, hOb, h4⟩, X4⟩ df4
 simp only at h4 X4
 subst h4
 have X4' := Ext.unmask' X4 df4
 obtain ⟨S4, hS4⟩ : ∃ S4 : DS, S4 = YE S3 s4 := ⟨_, rfl⟩
 have n4 : s4.next = S4.next := by rw [hS4]; rfl
 rw [← hS4] at X4'
 have hG4 := X4'.good hG3
 have hle4 := X4'.le
 have X24 := X3'.trans' X4'
 have ga4 := X24.keep ga2 (by simp)
 have gb4 := X24.keep gb2 (by simp)
 have g04 := X24.keep g02 (by simp)
 have wa4 := X24.wrs wa2
 have wb4 := X24.wrs wb2
 have w04 := X24.wrs w02
 have hfa : (Cells.list (z6 .u8 32)).fillFrom 0 oa = .list oa := by
  rw [Yg _ _ _ (by rw [hOa.1]; decide), hOa.1]
  simp [z6]
 have hfb : (Cells.list (z6 .u8 32)).fillFrom 0 ob = .list ob := by
  rw [Yg _ _ _ (by rw [hOb.1]; decide), hOb.1]
  simp [z6]
 have hne : ¬ S1.next + 1 = S1.next := by omega
 have gb5 : (S4.upd S1.next (.cells (.list oa) false)).get (S1.next + 1) = some (.cells (.list (z6 .u8 32)) false) := (DS.upd_get_ne hne).trans gb4
 have wb5 : (S4.upd S1.next (.cells (.list oa) false)).wr (S1.next + 1) = true := by rw [DS.upd_wr]; exact wb4
 simp (maxSteps := 4000000) (maxDischargeDepth := 8) only [zr, zf, zc, zg, zn, zt, W5, YN, Xp, Zi, zi, Yl, zm, zl, zd, zJ, zb, za, z0, z1, Nat.zero_add, ZA, zD, Bool.and_true, Nat.beq_eq, Nat.ble_eq, Nat.le_refl, if_true, DS.wrC, Cells.size, List.nil_append, List.cons_append, DS.upd_next, Option.map_none, foot, Q2, zZ, Nat.reduceLT, Nat.lt_add_one, ← hS4, n4, ga4, wa4, gb5, wb5, hOa.1, hOa.allOne, hfa, hOb.1, hOb.allOne, hfb, (YP .u8 32).1]
 have hbd : ZQ 32 32 none none none = some (0, 32, 32) := rfl
 have hst : ∀ B, Ye (some ⟨B, 0, none⟩) 1 0 32 32 true = some (.slice (some ⟨B, 0, none⟩) 32 32) := fun _ => rfl
 obtain ⟨S6, hS6⟩ : ∃ S6 : DS, S6 = (S4.upd S1.next (.cells (.list oa) false)).upd (S1.next + 1) (.cells (.list ob) false) := ⟨_, rfl⟩
 have ga6 : S6.get S1.next = some (.cells (.list oa) false) := by
  rw [hS6, DS.upd_get_ne (fun h => hne h.symm), DS.upd_get_self, ga4]
  rfl
 have gb6 : S6.get (S1.next + 1) = some (.cells (.list ob) false) := by
  rw [hS6, DS.upd_get_self, gb5]
  rfl
 have X46 : Ext [S1.next, S1.next + 1] S4 S6 := by
  rw [hS6]
  exact (Ext.upd (F := [S1.next, S1.next + 1]) (s := S4) (.inl (by simp))).trans (Ext.upd (F := [S1.next, S1.next + 1]) (.inl (by simp))) (by simp)
 have hG6 := X46.good hG4
 have hle6 := X46.le
 have g06 := X46.keep g04 (by simp only [List.mem_cons, List.not_mem_nil, or_false]; omega)
 have w06 := X46.wrs w04
 simp (maxSteps := 4000000) (maxDischargeDepth := 8) only [zt, ze, zu, Qb, zi, zB, zm, zl, zy, zd, zb, za, z0, z1, z4, z5, Nat.zero_add, Nat.reduceAdd, YD, List.length_cons, List.length_nil, Bool.and_self, Bool.and_eq_true, Nat.beq_eq, Nat.ble_eq, Nat.reduceLeDiff, Nat.le_refl, and_self, if_true, zL, List.take_zero, List.take_succ_cons, List.drop_succ_cons, List.drop_zero, List.nil_append, List.cons_append, List.drop_nil, List.append_nil, Q4, Option.map_none, repeatZ, Qb, Nat.mul_one, Q2, zZ, Nat.reduceLT, Nat.lt_add_one, ← hS6, hbd, hst]
 obtain ⟨A, hA⟩ : ∃ A, A = (List.range 32).map (nAt oa) := ⟨_, rfl⟩
 obtain ⟨B, hB'⟩ : ∃ B, B = (List.range 32).map (nAt ob) := ⟨_, rfl⟩
 have hAl : A.length = 32 := by rw [hA]; simp
 have hBl : B.length = 32 := by rw [hB']; simp
 have hAo : oa = u8s A := by rw [hA]; exact Ni hOa
 have hBo : ob = u8s B := by rw [hB']; exact Ni hOb
 obtain ⟨S7, hS7⟩ : ∃ S7 : DS, S7 = S6.new (.cells (.list [.slice (some ⟨S1.next, 0, none⟩) 32 32, .slice (some ⟨S1.next + 1, 0, none⟩) 32 32]) false) := ⟨_, rfl⟩
 rw [← hS7]
 have X67 : Ext [] S6 S7 := by rw [hS7]; exact Ext.new
 have hG7 := X67.good hG6
 have ga7 := X67.keep ga6 (by simp)
 have gb7 := X67.keep gb6 (by simp)
 have gP : S7.get S6.next = some (.cells (.list ([((.slice (some ⟨S1.next, 0, none⟩) 32 32 : Value), A), (.slice (some ⟨S1.next + 1, 0, none⟩) 32 32, B)].map Prod.fst)) false) := by rw [hS7]; exact DS.new_get_self hG6
 have rdA : S7.read S1.next 0 32 = some oa := by
  unfold DS.read
  simp only [ga7]
  rw [ZL _ _ _ (by rw [hOa.1]; decide)]
  simp only [List.drop_zero]
  rw [List.take_of_length_le (by rw [hOa.1]; exact Nat.le_refl _)]
 have rdB : S7.read (S1.next + 1) 0 32 = some ob := by
  unfold DS.read
  simp only [gb7]
  rw [ZL _ _ _ (by rw [hOb.1]; decide)]
  simp only [List.drop_zero]
  rw [List.take_of_length_le (by rw [hOb.1]; exact Nat.le_refl _)]
 have RA : SlR S7 (.slice (some ⟨S1.next, 0, none⟩) 32 32) A := .inr ⟨_, 0, none, 32, by rw [hAl], .inl rfl, by rw [hAl]; exact Nat.le_refl _, by rw [hAl, rdA, hAo]⟩
 have RB : SlR S7 (.slice (some ⟨S1.next + 1, 0, none⟩) 32 32) B := .inr ⟨_, 0, none, 32, by rw [hBl], .inl rfl, by rw [hBl]; exact Nat.le_refl _, by rw [hBl, rdB, hBo]⟩
 refine W.mono (TT hB (d := d + 10) (b := S6.next) (ps := [((.slice (some ⟨S1.next, 0, none⟩) 32 32 : Value), A), (.slice (some ⟨S1.next + 1, 0, none⟩) 32 32, B)]) hG7 gP ?_ ?_ ?_ ?_) ?_
 · intro q hq
   rcases List.mem_cons.1 hq with rfl | hq
   · exact RA
   obtain rfl := List.mem_singleton.1 hq
   exact RB
 · show 2 < E.lf
   omega
 · show 2 ≤ 1000000
   omega
 · intro q hq
   rcases List.mem_cons.1 hq with rfl | hq
   · show A.length < E.lf
     omega
   obtain rfl := List.mem_singleton.1 hq
   show B.length < E.lf
   omega
 rintro ⟨v8, s8⟩ ⟨h8, X8⟩
 simp only at h8 X8
 subst h8
 have g08 := X8.keep (X67.keep g06 (by simp)) (by simp)
 have w08 := X8.wrs (X67.wrs w06)
 show Di _ _ _ _ _ _ (.agg ⟨QE [A, B]⟩, s8)
 have hO : U .u8 32 (QE [A, B]) := V1 _
 obtain ⟨o, ho⟩ : ∃ o, o = QE [A, B] := ⟨_, rfl⟩
 rw [← ho] at hO ⊢
 have hfill9 : (Cells.list (z6 .u8 32)).fillFrom 0 o = .list o := by
  rw [Yg _ _ _ (by rw [hO.1]; decide), hO.1]
  simp [z6]
 have hrd : (s8.upd S.next (.cells (.list o) false)).read S.next 0 32 = some o := by
  unfold DS.read
  simp only [DS.upd_get_self, g08, Option.map_some]
  rw [ZL _ _ _ (by rw [hO.1]; decide)]
  simp only [List.drop_zero]
  rw [List.take_of_length_le (by rw [hO.1]; exact Nat.le_refl _)]
 simp (maxSteps := 4000000) (maxDischargeDepth := 8) only [zI, zc, zg, zn, zt, ze, Zi, zi, Yl, z9, zx, zl, zd, zJ, zb, za, z0, z1, zo, zz, Nat.zero_add, ZA, zD, Bool.and_true, Nat.beq_eq, Nat.ble_eq, Nat.le_refl, if_true, DS.wrC, Cells.size, zZ, Nat.reduceLT, Nat.lt_add_one, g08, w08, hO.1, hO.allOne, hfill9, (YP .u8 32).1, hrd]
 refine hQ _ ⟨⟨o, hO, rfl⟩, ?_⟩
 have XA : Ext [] S S4 := ((X1.trans' X2).trans' X24)
 have XB : Ext [] S S6 := XA.trans X46 (by simp only [List.mem_cons, List.not_mem_nil, or_false]; omega)
 exact ((XB.trans' X67).trans' X8).trans (Ext.upd (F := [S.next]) (.inl (by simp))) (by simp)
end
end Go.Dx.RpA
