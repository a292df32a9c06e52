/- A part. -/
import Derived.Test.YtffgmngdgkpflaaGreatT1Ma
import Derived.Test.YtffgmngdgkpflaaGreatDxTopM
set_option linter.unusedVariables false
set_option linter.unusedSimpArgs false
set_option linter.unusedSectionVars false
set_option maxRecDepth 100000
set_option maxHeartbeats 4000000
namespace Go.Dx.TbA
open Go Go.Dx Go.Dx.Tab Go.Proofs.YtffgmngdgkpflaaGreat
open Go.Dx.St (I64)
abbrev Hx : List Kd := [.int .i64, .int .i64, .int .i64, .int .i64, .int .i64, .bool, .int .i64, .int .i64, .int .i64]
theorem Kz.keep {s s' : DS} {F : List Nat} {v : Value} {l : List (List Value)} (h : Kz s v l) (e : Ext F s s') (hF : ∀ k, k ∈ F → ∀ c, s.get k ≠ some (.cells c true)) : Kz s' v l := by
 rcases h with h | ⟨b, c, h1, h2⟩
 · exact .inl h
 · exact .inr ⟨b, c, h1, e.keep h2 fun hb => hF b hb _ h2⟩
theorem Ea {s : DS} {v0 : Value} {l : List (List Value)} (hr : Kz s v0 l) (hl : ∀ x, x ∈ l → Zv Hx x) {i : Nat} (hi : i < l.length) :
 ∃ (k c n : Int) (r : Rp) (vb vc : Nat), v0 = .slice (some ⟨vb, 0, none⟩) l.length vc ∧ s.get vb = some (.cells (.list l.flatten) true) ∧ ldA 9 (.pointer (some ⟨vb, i * 9, none⟩)) s = some (.agg ⟨.int .i64 k :: .int .i64 c :: .int .i64 n :: r.cells⟩) ∧ I64 r.v := by
 obtain ⟨x, hx⟩ : ∃ x, l[i]? = some x := ⟨l[i], List.getElem?_eq_getElem hi⟩
 have hfx := hl x (List.mem_of_getElem? hx)
 obtain ⟨x0, r0, rfl, ⟨k, rfl, _⟩, hf0⟩ := Zv.cons hfx
 obtain ⟨x1, r1, rfl, ⟨c, rfl, _⟩, hf1⟩ := Zv.cons hf0
 obtain ⟨x2, r2, rfl, ⟨n, rfl, _⟩, hf2⟩ := Zv.cons hf1
 obtain ⟨x3, r3, rfl, ⟨a, rfl, _⟩, hf3⟩ := Zv.cons hf2
 obtain ⟨x4, r4, rfl, ⟨b, rfl, _⟩, hf4⟩ := Zv.cons hf3
 obtain ⟨x5, r5, rfl, ⟨j, rfl⟩, hf5⟩ := Zv.cons hf4
 obtain ⟨x6, r6, rfl, ⟨e, rfl, _⟩, hf6⟩ := Zv.cons hf5
 obtain ⟨x7, r7, rfl, ⟨f, rfl, hwf⟩, hf7⟩ := Zv.cons hf6
 obtain ⟨x8, r8, rfl, ⟨g, rfl, _⟩, hf8⟩ := Zv.cons hf7
 obtain rfl := Zv.nil hf8
 have hm9 : ∀ y, y ∈ l → y.length = 9 := fun y hy => Zv.length (hl y hy)
 rcases hr with ⟨_, rfl⟩ | ⟨vb, vc, rfl, hb⟩
 · simp at hx
 · have hlen : l.flatten.length = l.length * 9 := WE hm9
   have hrd : s.read vb 0 (l.length * 9) = some l.flatten := by
    unfold DS.read
    rw [hb]
    simp only
    rw [zQ _ _ _ (by omega)]
    simp only [List.drop_zero]
    rw [List.take_of_length_le (by omega)]
   have h := DK hrd hm9 hx
   rw [Nat.zero_add] at h
   refine ⟨k, c, n, ⟨a, b, j, e, f, g⟩, vb, vc, rfl, hb, ?_, ?_⟩
   · unfold ldA
     simp only [h]
     rfl
   · simp [Lit.wf, IntKind.min, IntKind.max, IntKind.signed, IntKind.bits] at hwf
     exact Q1 (by show _ ≤ f; omega) (by show f ≤ _; omega)
theorem TabAt.unmask {s s1 : DS} {t m clock : Nat} {M : TRs} {nt : List ZW} {haz : List Nat} {F : List Nat} (c : TabAt s1 t m M clock) (h1 : hidden nt haz t = false) (h2 : hidden nt haz m = false) (e : Ext F (Go.Dx.mask s nt haz) s1) (w1 : s.wr t = true) (w2 : s.wr m = true) : TabAt (Go.Dx.unmask s s1) t m M clock :=
 ⟨(Yn h1 e).trans c.go, w1, (Yn h2 e).trans c.gm, w2, c.ne⟩
structure DoI (s0 : DS) (q : Nat) (v0 : Value) (l : List (List Value)) (n : Nat) (y : St) : Prop where
 ex : ∃ (i t m clock : Nat) (M : TRs), n = l.length - i ∧ i ≤ l.length ∧ y.defers = [] ∧
  (y.t.get 0 = some v0 ∧ y.t.get 3 = some (.pointer (some ⟨t, 0, none⟩)) ∧ y.t.get 4 = some (.pointer (some ⟨q, 0, none⟩)) ∧ y.t.get 5 = some (.int .i64 (i : Int))) ∧
  TabAt y.s t m M clock ∧ Zn M clock ∧ ZY y.s q (Go.Dx.Tab.rowOf M) ∧ AOk (Go.Dx.Tab.rowOf M) ∧ q ≠ t ∧ q ≠ m ∧ s0.next ≤ t ∧ s0.next ≤ m ∧ Ext [] s0 y.s
section
variable {E : Env} (hC : QE E) (hG' : GM E) (hR : Vh E) (hF : Kw E) (hT : Jx E) (hE : Dy E) (hW : R7 E) (hP : R9 E) (hI : TV E) (hO : Ky E) (hB : Go.Dx.RpA.En E) (hS : Go.Dx.RpA.Mf E) {s : DS} {d : Nat} {v0 : Value} {l : List (List Value)}
include hC hG' hR hF hT hE hW hP hI hO hB hS
theorem Hj (f4 : E.fn 4 = some d4) (i4 : E.intr 4 = none) (f5 : E.fn 5 = some d5) (i5 : E.intr 5 = none) (hcl : E.intr 39 = some Wp) (fU : E.fn 6 = some d6) (iU : E.intr 6 = none) (frd : E.fn 25 = some d25) (ird : E.intr 25 = none) (fN : E.fn 10 = some d10) (iN : E.intr 10 = none)
 (fL : E.fn 8 = some d8) (iL : E.intr 8 = none) (fFk : E.fn 17 = some d17) (iFk : E.intr 17 = none) (fFg : E.fn 15 = some d15) (iFg : E.intr 15 = none) (fDg : E.fn 18 = some d18) (iDg : E.intr 18 = none)
 (frB : E.fn 12 = some d12) (irB : E.intr 12 = none) (frF : E.fn 14 = some d14) (irF : E.intr 14 = none) (frG : E.fn 16 = some d16) (irG : E.intr 16 = none) (frD : E.fn 19 = some d19) (irD : E.intr 19 = none)
 (hG : s.Good) (hr : Kz s v0 l) (hl : ∀ x, x ∈ l → Zv Hx x) (hll : l.length < E.lf) (h63 : (l.length : Int) ≤ 9223372036854775807) :
 W (dcall E (d + 15) (.func (.func 4) #[] #[]) [v0] s) fun r => r.1 = .bool true := by
 have hlf := hC.lf
 rw [zh i4 f4 rfl]
 simp only [sA, pp, pv, pw, pg, d4]
 refine W.mono (T9 hT (d := d + 13) hG) ?_
 rintro ⟨r0, s1⟩ ⟨hr', ct, X1⟩
 simp only at hr' ct X1
 subst hr'
 have hG1 := X1.good hG
 obtain ⟨S2, hS2⟩ : ∃ S2 : DS, S2 = s1.new (.cells (.list zT) false) := ⟨_, rfl⟩
 simp only [sA, zg, ← hS2]
 have X2 : Ext [] s1 S2 := by rw [hS2]; exact Ext.new
 have c2 := ct.keep X2 (by simp) (by simp)
 have cr2 : ZY S2 s1.next (Go.Dx.Tab.rowOf []) := ⟨by rw [hS2, DS.new_get_self hG1, Hf]; rfl, X2.wrs (hG1 _ (Nat.le_refl _)).2⟩
 clear hS2
 refine W.mono (Rq hC hG' hR hF hT hE hW hP hB (d := d) f5 i5 fU iU frd ird fN iN fDg iDg (X2.good hG1)) ?_
 rintro ⟨v3, S3⟩ ⟨h3, X3⟩
 simp only at h3 X3
 subst h3
 simp only [sA, zb, zJ, Nat.reduceEqDiff]
 replace c2 := c2.keep X3 (by simp) (by simp)
 replace cr2 := cr2.keep X3 (by simp)
 have X02 := (X1.trans' X2).trans' X3
 have htl := DS.get_lt' ct.go
 have hml := DS.get_lt' ct.gm
 obtain ⟨q, hq⟩ : ∃ q, q = s1.next := ⟨_, rfl⟩
 rw [← hq] at cr2 ⊢
 refine zY (DoI s q v0 l) l.length hll ⟨0, s.next + 1, s.next, 0, [], rfl, Nat.zero_le _, rfl, ?_, c2, Zn.nil, cr2, (fun k x h => nomatch h), by omega, by omega, by omega, by omega, X02⟩ ?_
 · simp only [sA, Nat.reduceEqDiff, reduceCtorEq]
   rfl
 rintro n ⟨tt, S, ds⟩ hn ⟨i, t, m, clock, M, rfl, hil, hds, ⟨g0, g3, g4, g5⟩, cS, hM, crS, hA, hqt, hqm, ht0, hm0, XS⟩
 simp only at hds g0 g3 g4 g5 cS crS XS
 subst hds
 have hGS := XS.good hG
 have hrS := Kz.keep hr XS (by simp)
 by_cases hi1 : i < l.length
 case neg =>
  obtain rfl : i = l.length := by omega
  obtain ⟨va, vc, hv0⟩ : ∃ a c, v0 = .slice a l.length c := by
   rcases hr with ⟨rfl, rfl⟩ | ⟨b, c, rfl, _⟩
   · exact ⟨_, _, rfl⟩
   · exact ⟨_, _, rfl⟩
  have e1 : ¬ (l.length : Int) < (l.length : Int) := by omega
  rw [hv0] at g0
  simp only [sA, zb, zl, zm, Nat.reduceEqDiff, reduceCtorEq, g0, g3, g4, g5, e1]
  refine W.mono (VK hC hT hE hF hW hP hB (d := d + 1) fDg iDg hM cS hGS) ?_
  rintro ⟨v5, s5⟩ ⟨h5', X5⟩
  simp only at h5' X5
  subst h5'
  simp only [sA, Nat.reduceEqDiff, g4]
  refine W.mono (Pw hO hS (d := d + 6) frD irD (crS.keep X5 (by simp)) (fun i x h => ⟨(hA _ _ h).1, (hA _ _ h).2.1⟩) (X5.good hGS)) ?_
  rintro ⟨v6, s6⟩ ⟨h6, X6⟩
  simp only at h6 X6
  subst h6
  have hoo := C0 (l := QN [Yk (Go.Dx.Tab.rowOf M)]) (Gx _)
  simp (maxDischargeDepth := 8) only [sA, sM, zb, za, zd, Nat.reduceLT, N6, hoo]
 have e1 : (i : Int) < (l.length : Int) := by omega
 have w1 : zf .i64 ((i : Int) + 1) = ((i + 1 : Nat) : Int) := by rw [zi (by omega) (by omega)]; omega
 obtain ⟨k, oc, on, r, vb, vc, hv0, hb, hld, hrv⟩ := Ea hrS hl hi1
 rw [hv0] at g0
 simp only [Rp.cells] at hld
 obtain ⟨S1, hS1⟩ : ∃ S1 : DS, S1 = (S.new (.cells (.list [.int .i64 0, .int .i64 0, .int .i64 0, .int .i64 0, .int .i64 0, .bool false, .int .i64 0, .int .i64 0, .int .i64 0]) false)).upd S.next (.cells (.list [.int .i64 k, .int .i64 oc, .int .i64 on, .int .i64 r.c, .int .i64 r.n, .bool r.rej, .int .i64 r.trap, .int .i64 r.v, .int .i64 r.gas]) false) := ⟨_, rfl⟩
 have XQ : Ext [] S S1 := by rw [hS1]; exact (Ext.new (F := [])).trans (Ext.upd (F := [S.next]) (.inl (by simp))) (by simp)
 have hGQ := XQ.good hGS
 have gq : S1.get S.next = some (.cells (.list [.int .i64 k, .int .i64 oc, .int .i64 on, .int .i64 r.c, .int .i64 r.n, .bool r.rej, .int .i64 r.trap, .int .i64 r.v, .int .i64 r.gas]) false) := by rw [hS1]; simp (maxDischargeDepth := 8) only [sA, zR, hGS]
 have nq : S1.next = S.next + 1 := by rw [hS1]; simp (maxDischargeDepth := 8) only [sA]
 have hml' := DS.get_lt' cS.gm
 have htl' := DS.get_lt' cS.go
 have hql' := DS.get_lt' crS.gq
 have cQ := cS.keep XQ (by simp) (by simp)
 have crQ := crS.keep XQ (by simp)
 have XsQ := XS.trans' XQ
 have leS := XS.le
 have leX1 := X1.le
 by_cases k1 : k = 1
 · simp (maxDischargeDepth := 8) only [sA, sM, zb, zl, zm, Cells.get, getN, Nat.reduceAdd, allOne, ze, DS.wrC, Cells.size, Cells.fillFrom, Cells.set, zk, foot, Nat.reduceLT, g0, g3, g4, g5, e1, hi1, hld, hGS, k1]
   rw [k1] at hS1 gq
   rw [← hS1]
   refine W.masked (hE.fr _) (Qf hT (d := d + 9) (cQ.mask ⟨by (simp only [hidden, shielded, noteAt, zx, Bool.or_false, Bool.or_eq_false_iff, Bool.and_eq_false_iff, zD, zM, zH, true_and, and_true, true_or, or_true] <;> omega), by (simp only [hidden, shielded, noteAt, zx, Bool.or_false, Bool.or_eq_false_iff, Bool.and_eq_false_iff, zD, zM, zH, true_and, and_true, true_or, or_true] <;> omega)⟩ ⟨by (simp only [hidden, shielded, noteAt, zx, Bool.or_false, Bool.or_eq_false_iff, Bool.and_eq_false_iff, zD, zM, zH, true_and, and_true, true_or, or_true] <;> omega), by (simp only [hidden, shielded, noteAt, zx, Bool.or_false, Bool.or_eq_false_iff, Bool.and_eq_false_iff, zD, zM, zH, true_and, and_true, true_or, or_true] <;> omega)⟩) (Zq hGQ fun k hk => ⟨by (simp only [hidden, shielded, noteAt, zx, Bool.or_false, Bool.or_eq_false_iff, Bool.and_eq_false_iff, zD, zM, zH, true_and, and_true, true_or, or_true] <;> omega), by (simp only [hidden, shielded, noteAt, zx, Bool.or_false, Bool.or_eq_false_iff, Bool.and_eq_false_iff, zD, zM, zH, true_and, and_true, true_or, or_true] <;> omega)⟩) oc on) ?_
   rintro v2 s2 ⟨h2, ⟨M2, ck2, c2, hk2, hT2⟩, X2⟩ df
   simp only at h2 c2 X2
   subst h2
   have X2' := Ext.unmask' X2 df
   have c2' := c2.unmask (by (simp only [hidden, shielded, noteAt, zx, Bool.or_false, Bool.or_eq_false_iff, Bool.and_eq_false_iff, zD, zM, zH, true_and, and_true, true_or, or_true] <;> omega)) (by (simp only [hidden, shielded, noteAt, zx, Bool.or_false, Bool.or_eq_false_iff, Bool.and_eq_false_iff, zD, zM, zH, true_and, and_true, true_or, or_true] <;> omega)) X2 cQ.wo cQ.wm
   obtain ⟨S2, hS2⟩ : ∃ S2 : DS, S2 = unmask S1 s2 := ⟨_, rfl⟩
   have n2 : s2.next = S2.next := by rw [hS2]; rfl
   rw [← hS2] at X2' c2'
   have cr2 := crQ.keep X2' (by simp; exact hqm)
   have G2 := X2'.good hGQ
   simp only [sA, Nat.reduceEqDiff, foot, ← hS2, n2]
   refine W.mono (RC hI (d := d + 11) frB irB cr2 G2 oc on) ?_
   rintro ⟨v3, S3⟩ ⟨h3, cr3, X3⟩
   simp only at h3 cr3 X3
   subst h3
   have hee : (Zf (Go.Dx.Tab.rowOf M oc) oc on = Zf (Go.Dx.Tab.rowOf M oc) oc on) = True := eq_true rfl
   have hfun : Go.Dx.Tab.rowOf M2 = WS (Go.Dx.Tab.rowOf M) (decide (Zf (Go.Dx.Tab.rowOf M oc) oc on = 0)) ⟨oc, on, false, Rp.zero⟩ := funext hT2
   rw [← hfun] at cr3
   have hN := hk2 hM
   have aN := Q8 hA hN (Q1 (n := 0) (by omega) (by omega)) hfun
   have cN := c2'.keep X3 (by simp; exact fun e => hqt e.symm) (by simp; exact fun e => hqm e.symm)
   have crN := cr3
   have GN := X3.good G2
   have q1 := hqt
   have q2 := hqm
   have XN : Ext [] s S3 := (XsQ.trans X2' (by simp; omega)).trans X3 (by simp; omega)
   simp only [sA, zb, zl, zm, Nat.reduceEqDiff, foot, g0, g3, g4, g5, hee]
   refine W.mono (XZ hT hP hC hE hF hW hO (d := d + 1) fL iL hN cN crN q1 q2 GN) ?_
   rintro ⟨v9, s9⟩ ⟨h9, X9⟩
   simp only at h9 X9
   subst h9
   simp only [sA, zb, zl, zm, Nat.reduceEqDiff, g0, g3, g4, g5, w1]
   exact ⟨l.length - (i + 1), by omega, ⟨i + 1, _, _, _, _, rfl, by omega, rfl, by simp only [sA, Nat.reduceEqDiff, reduceCtorEq, g0, g3, g4, g5, hv0], cN.keep X9 (by simp) (by simp), hN, crN.keep X9 (by simp), aN, q1, q2, by omega, by omega, XN.trans' X9⟩⟩
 by_cases k2 : k = 2
 · simp (maxDischargeDepth := 8) only [sA, sM, zb, zl, zm, Cells.get, getN, Nat.reduceAdd, allOne, ze, DS.wrC, Cells.size, Cells.fillFrom, Cells.set, zk, Int.reduceEq, foot, Nat.reduceLT, g0, g3, g4, g5, e1, hi1, hld, hGS, k2]
   rw [k2] at hS1 gq
   rw [← hS1]
   have hl6 : ldA 6 (.pointer (some ⟨S.next, 3, none⟩)) S1 = some (.agg ⟨r.cells⟩) := by
    simp only [ldA, DS.read, gq]
    rfl
   simp (maxDischargeDepth := 8) only [sA, sM, zb, foot, Nat.reduceLT, hl6, g3, g4]
   refine W.masked (hE.fr _) (QL hC hT hE (d := d + 4) (cQ.mask ⟨by (simp only [hidden, shielded, noteAt, zx, Bool.or_false, Bool.or_eq_false_iff, Bool.and_eq_false_iff, zD, zM, zH, true_and, and_true, true_or, or_true] <;> omega), by (simp only [hidden, shielded, noteAt, zx, Bool.or_false, Bool.or_eq_false_iff, Bool.and_eq_false_iff, zD, zM, zH, true_and, and_true, true_or, or_true] <;> omega)⟩ ⟨by (simp only [hidden, shielded, noteAt, zx, Bool.or_false, Bool.or_eq_false_iff, Bool.and_eq_false_iff, zD, zM, zH, true_and, and_true, true_or, or_true] <;> omega), by (simp only [hidden, shielded, noteAt, zx, Bool.or_false, Bool.or_eq_false_iff, Bool.and_eq_false_iff, zD, zM, zH, true_and, and_true, true_or, or_true] <;> omega)⟩) (Zq hGQ fun k hk => ⟨by (simp only [hidden, shielded, noteAt, zx, Bool.or_false, Bool.or_eq_false_iff, Bool.and_eq_false_iff, zD, zM, zH, true_and, and_true, true_or, or_true] <;> omega), by (simp only [hidden, shielded, noteAt, zx, Bool.or_false, Bool.or_eq_false_iff, Bool.and_eq_false_iff, zD, zM, zH, true_and, and_true, true_or, or_true] <;> omega)⟩) r) ?_
   rintro v2 s2 ⟨h2, ⟨M2, ck2, c2, hk2, hT2⟩, X2⟩ df
   simp only at h2 c2 X2
   subst h2
   have X2' := Ext.unmask' X2 df
   have c2' := c2.unmask (by (simp only [hidden, shielded, noteAt, zx, Bool.or_false, Bool.or_eq_false_iff, Bool.and_eq_false_iff, zD, zM, zH, true_and, and_true, true_or, or_true] <;> omega)) (by (simp only [hidden, shielded, noteAt, zx, Bool.or_false, Bool.or_eq_false_iff, Bool.and_eq_false_iff, zD, zM, zH, true_and, and_true, true_or, or_true] <;> omega)) X2 cQ.wo cQ.wm
   obtain ⟨S2, hS2⟩ : ∃ S2 : DS, S2 = unmask S1 s2 := ⟨_, rfl⟩
   have n2 : s2.next = S2.next := by rw [hS2]; rfl
   rw [← hS2] at X2' c2'
   have cr2 := crQ.keep X2' (by simp; exact hqm)
   have G2 := X2'.good hGQ
   simp only [sA, Nat.reduceEqDiff, foot, ← hS2, n2]
   refine W.mono (Tm hI (d := d + 11) frF irF cr2 G2 r) ?_
   rintro ⟨v3, S3⟩ ⟨h3, cr3, X3⟩
   simp only at h3 cr3 X3
   subst h3
   have hee : (z6 (Go.Dx.Tab.rowOf M r.c) r = z6 (Go.Dx.Tab.rowOf M r.c) r) = True := eq_true rfl
   have hfun : Go.Dx.Tab.rowOf M2 = WS (Go.Dx.Tab.rowOf M) (decide (z6 (Go.Dx.Tab.rowOf M r.c) r = 0)) ⟨r.c, r.n, true, r⟩ := funext hT2
   rw [← hfun] at cr3
   have hN := hk2 hM
   have aN := Q8 hA hN (y := ⟨r.c, r.n, true, r⟩) hrv hfun
   have cN := c2'.keep X3 (by simp; exact fun e => hqt e.symm) (by simp; exact fun e => hqm e.symm)
   have crN := cr3
   have GN := X3.good G2
   have q1 := hqt
   have q2 := hqm
   have XN : Ext [] s S3 := (XsQ.trans X2' (by simp; omega)).trans X3 (by simp; omega)
   simp only [sA, zb, zl, zm, Nat.reduceEqDiff, foot, g0, g3, g4, g5, hee]
   refine W.mono (XZ hT hP hC hE hF hW hO (d := d + 1) fL iL hN cN crN q1 q2 GN) ?_
   rintro ⟨v9, s9⟩ ⟨h9, X9⟩
   simp only at h9 X9
   subst h9
   simp only [sA, zb, zl, zm, Nat.reduceEqDiff, g0, g3, g4, g5, w1]
   exact ⟨l.length - (i + 1), by omega, ⟨i + 1, _, _, _, _, rfl, by omega, rfl, by simp only [sA, Nat.reduceEqDiff, reduceCtorEq, g0, g3, g4, g5, hv0], cN.keep X9 (by simp) (by simp), hN, crN.keep X9 (by simp), aN, q1, q2, by omega, by omega, XN.trans' X9⟩⟩
 by_cases k3 : k = 3
 · simp (maxDischargeDepth := 8) only [sA, sM, zb, zl, zm, Cells.get, getN, Nat.reduceAdd, allOne, ze, DS.wrC, Cells.size, Cells.fillFrom, Cells.set, zk, Int.reduceEq, Nat.reduceLT, g0, g3, g4, g5, e1, hi1, hld, hGS, k3]
   rw [k3] at hS1 gq
   rw [← hS1]
   refine W.mono (Ti hT (d := d + 12) fFg iFg hM cQ hGQ oc) ?_
   rintro ⟨v2, S2⟩ ⟨h2, ⟨M2, c2, hN, hM2⟩, X2'⟩
   simp only at h2 c2 X2'
   subst h2
   have gq2 := X2'.keep gq (by simp; omega)
   have cr2 := crQ.keep X2' (by simp; exact hqm)
   have G2 := X2'.good hGQ
   simp only [sA, zb, Nat.reduceEqDiff, Cells.get, getN, g4, gq2]
   refine W.mono (Tl hI (d := d + 13) frG irG cr2 oc) ?_
   rintro ⟨v3, S3⟩ ⟨h3, cr3, X3⟩
   simp only at h3 cr3 X3
   subst h3
   have hfun : Go.Dx.Tab.rowOf M2 = fun k' => if k' = oc ∧ ((Go.Dx.Tab.rowOf M oc).map (·.done)).getD false = false then none else Go.Dx.Tab.rowOf M k' := funext hM2
   rw [← hfun] at cr3
   have aN : AOk (Go.Dx.Tab.rowOf M2) := NX hN fun k x hx => by
    rw [hM2] at hx
    split at hx
    · cases hx
    · exact (hA k x hx).2.2
   have cN := c2.keep X3 (by simp; exact fun e => hqt e.symm) (by simp; exact fun e => hqm e.symm)
   have crN := cr3
   have GN := X3.good G2
   have q1 := hqt
   have q2 := hqm
   have XN : Ext [] s S3 := (XsQ.trans X2' (by simp; omega)).trans X3 (by simp; omega)
   simp only [sA, zb, Nat.reduceEqDiff, g0, g3, g4, g5]
   refine W.mono (XZ hT hP hC hE hF hW hO (d := d + 1) fL iL hN cN crN q1 q2 GN) ?_
   rintro ⟨v9, s9⟩ ⟨h9, X9⟩
   simp only at h9 X9
   subst h9
   simp only [sA, zb, zl, zm, Nat.reduceEqDiff, g0, g3, g4, g5, w1]
   exact ⟨l.length - (i + 1), by omega, ⟨i + 1, _, _, _, _, rfl, by omega, rfl, by simp only [sA, Nat.reduceEqDiff, reduceCtorEq, g0, g3, g4, g5, hv0], cN.keep X9 (by simp) (by simp), hN, crN.keep X9 (by simp), aN, q1, q2, by omega, by omega, XN.trans' X9⟩⟩
 by_cases k4 : k = 4
 · simp (maxDischargeDepth := 8) only [sA, sM, zb, zl, zm, Cells.get, getN, Nat.reduceAdd, allOne, ze, DS.wrC, Cells.size, Cells.fillFrom, Cells.set, zk, Int.reduceEq, Nat.reduceLT, g0, g3, g4, g5, e1, hi1, hld, hGS, k4]
   rw [k4] at hS1 gq
   rw [← hS1]
   refine W.mono (Pm hT (d := d + 12) fFk iFk hcl cQ hGQ) ?_
   rintro ⟨v2, S2⟩ ⟨h2, cF, X2⟩
   simp only at h2 cF X2
   subst h2
   have gq2 := X2.keep gq (by simp)
   have cr2 := crQ.keep X2 (by simp)
   have G2 := X2.good hGQ
   have ct2 := cQ.keep X2 (by simp) (by simp)
   simp only [sA, zb, zJ, Nat.reduceEqDiff, Cells.get, getN, g3, gq2]
   refine W.mono (Qf hT (d := d + 9) ct2 G2 oc on) ?_
   rintro ⟨v3, S3⟩ ⟨h3, ⟨M3, ck3, c3, _, _⟩, X3⟩
   simp only at h3 c3 X3
   subst h3
   have gq3 := X3.keep gq2 (by simp; omega)
   have G3 := X3.good G2
   have hl6 : ldA 6 (.pointer (some ⟨S.next, 3, none⟩)) S3 = some (.agg ⟨r.cells⟩) := by
    simp only [ldA, DS.read, gq3]
    rfl
   simp (maxDischargeDepth := 8) only [sA, sM, zb, Nat.reduceLT, g3, hl6]
   refine W.mono (QL hC hT hE (d := d + 4) c3 G3 r) ?_
   rintro ⟨v4, S4⟩ ⟨h4, _, X4⟩
   simp only at h4 X4
   subst h4
   have X34 : Ext [m] S2 S4 := X3.trans' X4
   have cN := cF.keep X34 (by simp; omega) (by simp; omega)
   have crN := cr2.keep X34 (by simp; exact hqm)
   have hN := hM
   have aN := hA
   have GN := X34.good G2
   have q1 : q ≠ S1.next + 1 := by omega
   have q2 : q ≠ S1.next := by omega
   have XN : Ext [] s S4 := (XsQ.trans' X2).trans X34 (by simp; omega)
   simp only [sA, zb, Nat.reduceEqDiff, g0, g3, g4, g5]
   refine W.mono (XZ hT hP hC hE hF hW hO (d := d + 1) fL iL hN cN crN q1 q2 GN) ?_
   rintro ⟨v9, s9⟩ ⟨h9, X9⟩
   simp only at h9 X9
   subst h9
   simp only [sA, zb, zl, zm, Nat.reduceEqDiff, g0, g3, g4, g5, w1]
   exact ⟨l.length - (i + 1), by omega, ⟨i + 1, _, _, _, _, rfl, by omega, rfl, by simp only [sA, Nat.reduceEqDiff, reduceCtorEq, g0, g3, g4, g5, hv0], cN.keep X9 (by simp) (by simp), hN, crN.keep X9 (by simp), aN, q1, q2, by omega, by omega, XN.trans' X9⟩⟩
 by_cases k5 : k = 5
 · simp (maxDischargeDepth := 8) only [sA, sM, zb, zl, zm, Cells.get, getN, Nat.reduceAdd, allOne, ze, DS.wrC, Cells.size, Cells.fillFrom, Cells.set, zk, Int.reduceEq, Nat.reduceLT, g0, g3, g4, g5, e1, hi1, hld, hGS, k5]
   rw [k5] at hS1 gq
   rw [← hS1]
   refine W.mono (Jf hC hT hE hF hW hP (d := d + 2) hM cQ hGQ) ?_
   rintro ⟨v2, S2⟩ ⟨h2, hsh2, hb2, X2⟩
   simp only at h2 hsh2 hb2 X2
   have hR2 := SlR.of h2 hsh2
   have G2 := X2.good hGQ
   simp only [sA]
   refine W.mono (VF hC hG' hR hF hT (d := d + 3) fU iU frd ird fN iN hR2 (Fq _) (Nat.le_trans (WZ _) (by omega)) G2) ?_
   rintro ⟨v3, S3⟩ ⟨X3, h3⟩
   simp only at X3 h3
   rcases h3 with ⟨hno, _⟩ | ⟨⟨hg3, hok3⟩, t3, m3, rfl, c3, ht3, hm3⟩
   · exact absurd (V5 hA) hno
   have hrd := VY hA
   rw [hrd] at c3 hok3
   simp only at c3 hok3
   have hfun := Fd hA
   have hN := hok3.trs
   have cN := c3
   have crN : ZY S3 q (Go.Dx.Tab.rowOf (YC (Ys (Go.Dx.Tab.rowOf M)))) := by
    rw [hfun]
    exact (crQ.keep X2 (by simp)).keep X3 (by simp)
   have aN : AOk (Go.Dx.Tab.rowOf (YC (Ys (Go.Dx.Tab.rowOf M)))) := by rw [hfun]; exact hA
   have GN := X3.good G2
   have le2 := X2.le
   have q1 : q ≠ t3 := by omega
   have q2 : q ≠ m3 := by omega
   have XN : Ext [] s S3 := (XsQ.trans' X2).trans' X3
   simp only [sA, zb, zl, zm, zJ, Nat.reduceEqDiff, getN, g0, g3, g4, g5]
   refine W.mono (XZ hT hP hC hE hF hW hO (d := d + 1) fL iL hN cN crN q1 q2 GN) ?_
   rintro ⟨v9, s9⟩ ⟨h9, X9⟩
   simp only at h9 X9
   subst h9
   simp only [sA, zb, zl, zm, Nat.reduceEqDiff, g0, g3, g4, g5, w1]
   exact ⟨l.length - (i + 1), by omega, ⟨i + 1, _, _, _, _, rfl, by omega, rfl, by simp only [sA, Nat.reduceEqDiff, reduceCtorEq, g0, g3, g4, g5, hv0], cN.keep X9 (by simp) (by simp), hN, crN.keep X9 (by simp), aN, q1, q2, by omega, by omega, XN.trans' X9⟩⟩
 simp (maxDischargeDepth := 8) only [sA, sM, zb, zl, zm, Cells.get, getN, Nat.reduceAdd, allOne, ze, DS.wrC, Cells.size, Cells.fillFrom, Cells.set, zk, Nat.reduceLT, g0, g3, g4, g5, e1, hi1, hld, hGS, k1, k2, k3, k4, k5]
 rw [← hS1]
 have cN := cQ
 have crN := crQ
 have hN := hM
 have aN := hA
 have GN := hGQ
 have q1 := hqt
 have q2 := hqm
 have XN := XsQ
 refine W.mono (XZ hT hP hC hE hF hW hO (d := d + 1) fL iL hN cN crN q1 q2 GN) ?_
 rintro ⟨v9, s9⟩ ⟨h9, X9⟩
 simp only at h9 X9
 subst h9
 simp only [sA, zb, zl, zm, Nat.reduceEqDiff, g0, g3, g4, g5, w1]
 exact ⟨l.length - (i + 1), by omega, ⟨i + 1, _, _, _, _, rfl, by omega, rfl, by simp only [sA, Nat.reduceEqDiff, reduceCtorEq, g0, g3, g4, g5, hv0], cN.keep X9 (by simp) (by simp), hN, crN.keep X9 (by simp), aN, q1, q2, by omega, by omega, XN.trans' X9⟩⟩
end
end Go.Dx.TbA
