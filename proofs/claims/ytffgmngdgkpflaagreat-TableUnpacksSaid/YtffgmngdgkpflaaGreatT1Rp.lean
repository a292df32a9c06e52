/- A part. -/
import Derived.Test.YtffgmngdgkpflaaGreatT1Ru
set_option linter.unusedVariables false
set_option linter.unusedSimpArgs false
set_option linter.unusedSectionVars false
set_option maxRecDepth 100000
set_option maxHeartbeats 4000000
namespace Go.Dx.TbA
open Go Go.Dx Go.Dx.Tab Go.Proofs.YtffgmngdgkpflaaGreat
structure J2 (s : DS) (o : Nat) (bv : Value) (bs : List Int) : Prop where
 go : s.get o = some (.cells (.list [bv, .bool false, .bool false]) false)
 wo : s.wr o = true
 sl : SlX s 1 bv (Zy bs)
 ne : o ∉ blk bv
structure Gt (E : Env) : Prop where
 fput : E.fn 98 = some d98
 iput : E.intr 98 = none
 flow : E.fn 97 = some d97
 ilow : E.intr 97 = none
 fcount : E.fn 96 = some d96
 icount : E.intr 96 = none
 fmany : E.fn 58 = some d58
 imany : E.intr 58 = none
 fint : E.fn 60 = some d60
 iint : E.intr 60 = none
 fbyte : E.fn 59 = some d59
 ibyte : E.intr 59 = none
 fflag : E.fn 61 = some d61
 iflag : E.intr 61 = none
 fblob : E.fn 62 = some d62
 iblob : E.intr 62 = none
 fenc : E.fn 63 = some d63
 ienc : E.intr 63 = none
 fpack : E.fn 33 = some d33
 ipack : E.intr 33 = none
 lf : 10000 ≤ E.lf
def J1 (s : DS) (o : Nat) (cs : List Int) (r : Value × DS) : Prop := r.1 = .tuple #[] ∧ ∃ bv', J2 r.2 o bv' cs ∧ Ext [o] s r.2 ∧ ∀ k, k ∈ blk bv' → s.next ≤ k
theorem J2.keep {s s' : DS} {o : Nat} {bv : Value} {bs : List Int} {F : List Nat} (h : J2 s o bv bs) (X : Ext F s s') (h1 : o ∉ F) (h2 : ∀ k, k ∈ blk bv → k ∉ F) : J2 s' o bv bs :=
 ⟨X.keep h.go h1, X.wrs h.wo, h.sl.keep X h2, h.ne⟩
structure HZ (S : DS) (o : Nat) (x : Int) (size : Nat) (n : Nat) (y : St) : Prop where
 ex : ∃ (j : Nat) (w : Value), n = size - j ∧ j ≤ size ∧ y.defers = [] ∧ (y.t.get 0 = some (.pointer (some ⟨o, 0, none⟩)) ∧ y.t.get 1 = some (.int .u64 (Zj .u64 x)) ∧ y.t.get 2 = some (.int .i64 (size : Int)) ∧ y.t.get 6 = some w ∧ y.t.get 7 = some (.int .i64 (j : Int))) ∧
  Ext [] S y.s ∧ SlX y.s 1 w (Zy (leB x j)) ∧ ∀ k, k ∈ blk w → S.next ≤ k
section
variable {E : Env} (hO : Gt E) {s : DS} {o : Nat} {bv : Value} {bs cs : List Int} {d : Nat}
include hO
theorem Rh (h : J2 s o bv bs) (hG : s.Good) {y : Value} (hy : SlX s 1 y (Zy cs)) (hlen : bs.length + cs.length ≤ 1048576) :
 W (dcall E (d + 1) (.func (.func 98) #[] #[]) [.pointer (some ⟨o, 0, none⟩), y] s) (J1 s o (bs ++ cs)) := by
 have go := h.go
 have wo := h.wo
 have hol := DS.get_lt' go
 have hyl := hy.lt
 have hbl := h.sl.lt
 obtain ⟨ab, hbv⟩ := h.sl.shape
 obtain ⟨ay, hyv⟩ := hy.shape
 rw [Ze] at hbv hyv
 have w1 : Zj .i64 (1048576 - (bs.length : Int)) = 1048576 - (bs.length : Int) := ZV (by omega) (by omega)
 have e1 : ¬ 1048576 - (bs.length : Int) < (cs.length : Int) := by omega
 refine Zh fun Q hQ => ?_
 rw [zP hO.iput hO.fput rfl]
 have hv1 := (h.sl.view (YM _))
 have hv2 := (hy.view (YM _))
 subst hbv hyv
 have hn : ∀ ob, (s.new ob).get o = some (.cells (.list [.slice ab bs.length bs.length, .bool false, .bool false]) false) := fun ob => (DS.new_get_lt hol).trans go
 simp (maxSteps := 4000000) only [zq, zg, zD, zO, za, zf, zl, zo, Zm, zY, zt, ze, zr, Wg, zj, zK, zR, zV, z8, zF, ZE, z9, zp, Zc, zX, zi, zm, zd, zb, zc, Nat.reduceEqDiff, z0, zh, List.getElem?_cons_zero, List.getElem?_cons_succ, z1, zG, Cells.get, getN, Nat.zero_add, Nat.ble_eq, Nat.reduceLeDiff, if_true, if_false, reduceCtorEq, z3, zM, pp, pv, pw, pg, KC, W6, repeatZ, Wg, Nat.add_zero, Nat.mul_one, decide_false, d98, go, w1, e1, hn]
 obtain ⟨S1, hS1⟩ : ∃ S1 : DS, S1 = s.new (.cells (.list []) false) := ⟨_, rfl⟩
 rw [← hS1]
 have X1 : Ext [] s S1 := by rw [hS1]; exact Ext.new
 have g1 : S1.get s.next = some (.cells (.list []) false) := by rw [hS1]; exact DS.new_get_self hG
 have hx : SlX S1 1 (.slice (some ⟨s.next, 0, none⟩) 0 0) [] := .inr ⟨s.next, none, rfl, .inl rfl, g1, X1.wrs (hG _ (Nat.le_refl _)).2⟩
 have hG1 := X1.good hG
 refine W.mono (QR hx (hv1.of fun k hk => X1.get k (hbl k hk) (by simp)) Z0.nil (YM _) hG1 (by rw [Ze]; simp; omega) (by rw [Ze]; simp; omega)) ?_
 rintro ⟨w2, s2⟩ ⟨x2, X2, b2⟩
 simp only [List.nil_append] at x2 X2 b2
 have XA : Ext [] s s2 := X1.trans X2 (by simp [blk])
 have hb2 : ∀ k, k ∈ blk w2 → s.next ≤ k := fun k hk => by
  rcases b2 k hk with h | h
  · simp [blk] at h; omega
  · have := X1.le; omega
 simp (maxSteps := 4000000) only [zo, ze, zK, zi, zd, zb, zc, Nat.reduceEqDiff, z0, zh, List.getElem?_cons_zero, List.getElem?_cons_succ, z1, KC]
 refine W.mono (QR x2 (hv2.of fun k hk => XA.get k (hyl k hk) (by simp)) (YM _) (YM _) (XA.good hG) (by rw [Ze, Ze]; omega) (by rw [Ze, Ze]; omega)) ?_
 rintro ⟨w3, s3⟩ ⟨x3, X3, b3⟩
 simp only at x3 X3 b3
 have XB : Ext [] s s3 := XA.trans X3 (fun k hk => .inr (hb2 k hk))
 have hb3 : ∀ k, k ∈ blk w3 → s.next ≤ k := fun k hk => by
  rcases b3 k hk with h | h
  · exact hb2 k h
  · have := XA.le; omega
 have go3 := XB.keep go (by simp)
 have wo3 := XB.wrs wo
 rw [← KK] at x3
 obtain ⟨a3, hw3⟩ := x3.shape
 rw [Ze] at hw3
 subst hw3
 simp (maxSteps := 4000000) only [zf, zl, zo, ze, zr, zU, zj, z8, zF, Zx, zp, Zw, zi, zd, zE, zb, zc, Nat.reduceEqDiff, z0, z1, zn, zy, Nat.zero_add, Nat.reduceAdd, Zd, YE, List.length_cons, List.length_nil, zL, zH, Bool.and_self, Bool.and_true, Nat.beq_eq, Nat.ble_eq, Nat.reduceLeDiff, if_true, DS.wrC, Cells.size, Cells.fillFrom, Cells.set, Zb, List.length_append, Nat.add_zero, go3, wo3]
 have XU : ∀ ob, Ext [o] s3 (s3.upd o ob) := fun ob => Ext.upd (.inl (by simp))
 refine hQ _ ⟨rfl, _, ⟨?_, ?_, ?_, fun hk => by have := hb3 o hk; omega⟩, ?_, hb3⟩
 · rw [DS.upd_get_self, go3]; simp [List.length_append]
 · rw [DS.upd_wr]; exact wo3
 · exact x3.keep (XU _) fun k hk => by have := hb3 k hk; simp; omega
 · exact (XB.weaken (by simp)).trans' (XU _)
theorem Ri (h : J2 s o bv bs) (hG : s.Good) (x : Int) {size : Nat} (hs : size ≤ 8) (hlen : bs.length + size ≤ 1048576) :
 W (dcall E (d + 2) (.func (.func 97) #[] #[]) [.pointer (some ⟨o, 0, none⟩), .int .u64 (Zj .u64 x), .int .i64 (size : Int)] s) (J1 s o (bs ++ leB x size)) := by
 have hlf := hO.lf
 have hol := DS.get_lt' h.go
 have hbl := h.sl.lt
 refine Zh fun Q hQ => ?_
 rw [zP hO.ilow hO.flow rfl]
 simp (maxSteps := 4000000) only [zq, zg, Zp, za, zf, zl, zo, ze, zK, zm, zd, pp, pv, d97]
 refine Wc (HZ s o x size) size (by omega) ⟨0, .slice none 0 0, rfl, Nat.zero_le _, rfl, ?_, .refl, .inl ⟨rfl, rfl⟩, by simp [blk]⟩ ?_
 · simp (maxSteps := 4000000) only [zb, zc, Nat.reduceEqDiff, z0, zh, List.getElem?_cons_zero, List.getElem?_cons_succ, Bool.true_and, true_and, reduceCtorEq]
   rfl
 rintro n ⟨t, s2, ds⟩ hn ⟨j, w, rfl, hj, hds, ⟨g0, g1, g2, g6, g7⟩, X2, hw, hwb⟩
 simp only at hds g0 g1 g2 g6 g7 X2 hw
 subst hds
 have hG2 := X2.good hG
 by_cases c1 : j < size
 · have e1 : (j : Int) < (size : Int) := by omega
   have w1 : Zj .i64 ((j : Int) + 1) = ((j + 1 : Nat) : Int) := by rw [ZV (by omega) (by omega)]; omega
   have w2 : Zj .i64 (8 * (j : Int)) = ((8 * j : Nat) : Int) := by rw [ZV (by omega) (by omega)]; omega
   have hsh : YR .shr .u64 (Zj .u64 x) ((8 * j : Nat) : Int) = some (.int .u64 ((Zj .u64 x).fdiv (Int.ofNat (2 ^ (8 * j))))) := by
    unfold YR
    rw [if_neg (by omega)]
    have e2 : Nat.ble (bitsOf .u64) ((8 * j : Nat) : Int).toNat = false := by rw [ZW]; simp [bitsOf]; omega
    simp only [e2, z3, if_false]
    rfl
   simp (maxSteps := 4000000) only [zq, zg, zD, Zp, zO, za, zf, zl, zo, zN, ze, zr, Wg, zj, zK, zV, XH, zp, Zc, zX, zi, zm, zd, zb, zc, Nat.reduceEqDiff, z0, z1, Nat.zero_add, ZK, List.length_cons, List.length_nil, Bool.and_self, Bool.and_eq_true, Nat.beq_eq, Nat.ble_eq, Nat.reduceLeDiff, Nat.le_refl, and_self, if_true, zM, List.take_zero, List.drop_succ_cons, List.nil_append, List.drop_nil, List.append_nil, KC, W6, repeatZ, Wg, Nat.mul_one, decide_true, g0, g1, g2, g6, g7, e1, w1, w2, hsh]
   obtain ⟨S3, hS3⟩ : ∃ S3 : DS, S3 = s2.new (.cells (.list [.int .u8 (leI x j)]) false) := ⟨_, rfl⟩
   rw [show Zj .u8 ((Zj .u64 x).fdiv (Int.ofNat (2 ^ (8 * j)))) = leI x j from rfl, ← hS3]
   have X3 : Ext [] s2 S3 := by rw [hS3]; exact Ext.new
   have g3 : S3.get s2.next = some (.cells (.list [.int .u8 (leI x j)]) false) := by rw [hS3]; exact DS.new_get_self hG2
   have hv : SlV S3 1 (.slice (some ⟨s2.next, 0, none⟩) 1 1) (Zy [leI x j]) := .inr ⟨s2.next, 0, none, 1, rfl, by unfold DS.read; rw [g3]; rfl⟩
   refine W.mono (QR (hw.keep X3 (by simp)) hv (YM _) (YM _) (X3.good hG2) (by rw [Ze, Ze, ZP]; simp; omega) (by rw [Ze, Ze, ZP]; simp; omega)) ?_
   rintro ⟨w4, s4⟩ ⟨x4, X4, b4⟩
   simp only at x4 X4 b4
   rw [← KK, ← Fj] at x4
   have hb4 : ∀ k, k ∈ blk w4 → s.next ≤ k := fun k hk => by
    rcases b4 k hk with h | h
    · exact hwb k h
    · have := X3.le; have := X2.le; omega
   simp (maxSteps := 4000000) only [zg, za, Zk, zf, ZB, zl, zo, ze, zr, zj, zK, zV, Zc, zX, zi, zm, zd, zb, zc, Nat.reduceEqDiff, z0, z1, if_true, g0, g1, g2, g6, g7, w1]
   exact ⟨size - (j + 1), by omega, ⟨j + 1, w4, rfl, by omega, rfl, by simp (maxSteps := 4000000) only [zb, zc, Nat.reduceEqDiff, z0, Bool.and_self, and_self, reduceCtorEq, g0, g1, g2], (X2.trans' X3).trans X4 (fun k hk => .inr (hwb k hk)), x4, hb4⟩⟩
 · obtain rfl : j = size := by omega
   have e1 : ¬ (j : Int) < (j : Int) := by omega
   simp (maxSteps := 4000000) only [zq, zg, zD, Yx, za, ZH, ZI, zf, ZN, zl, zo, zt, ze, zr, zj, zK, zV, zB, Zc, zX, zi, zA, zd, zb, zc, Nat.reduceEqDiff, z0, z1, z4, z5, if_true, reduceCtorEq, decide_false, g0, g1, g2, g6, g7, e1]
   refine W.mono (Rh hO (h.keep X2 (by simp) (by simp)) hG2 hw (by rw [ZP]; exact hlen)) ?_
   rintro ⟨v5, s5⟩ ⟨hv5, bv5, h5, X5, b5⟩
   simp only at hv5 h5 X5
   subst hv5
   simp (maxSteps := 4000000) only [zf, zl, ze, zj, Zw, zd, zn, zy]
   exact hQ _ ⟨rfl, bv5, h5, (X2.weaken (by simp)).trans' X5, fun k hk => by have := b5 k hk; have := X2.le; omega⟩
theorem Vw (h : J2 s o bv bs) (hG : s.Good) {x most : Int} (hx : 0 ≤ x) (hm : x ≤ most) {size : Nat} (hs : size ≤ 8) (hlen : bs.length + size ≤ 1048576) :
 W (dcall E (d + 3) (.func (.func 96) #[] #[]) [.pointer (some ⟨o, 0, none⟩), .int .i64 x, .int .i64 (size : Int), .int .i64 most] s) (J1 s o (bs ++ leB x size)) := by
 have go := h.go
 have hol := DS.get_lt' go
 refine Zh fun Q hQ => ?_
 rw [zP hO.icount hO.fcount rfl]
 have e1 : ¬ x < 0 := by omega
 have e2 : ¬ most < x := by omega
 simp (maxSteps := 4000000) only [zq, zg, zD, zO, za, zf, zl, zo, Zm, zY, zt, ze, zr, zj, zK, zR, zV, XH, z8, zF, z9, zB, zp, Zc, zX, zi, zm, zA, zd, zb, zc, Nat.reduceEqDiff, z0, zh, List.getElem?_cons_zero, List.getElem?_cons_succ, z1, z4, z5, zG, Cells.get, getN, Nat.zero_add, if_true, if_false, reduceCtorEq, z3, pp, pv, pw, pg, decide_false, d96, go, e1, e2]
 refine W.mono (Ri hO h hG x hs hlen) ?_
 rintro ⟨v5, s5⟩ ⟨hv5, h5⟩
 simp only at hv5 h5
 subst hv5
 simp (maxSteps := 4000000) only [zf, zl, ze, zj, Zw, zd, zn, zy]
 exact hQ _ ⟨rfl, h5⟩
theorem N0 (h : J2 s o bv bs) (hG : s.Good) {x : Int} (hx : 0 ≤ x) (hm : x ≤ 4096) (hlen : bs.length + 2 ≤ 1048576) :
 W (dcall E (d + 4) (.func (.func 58) #[] #[]) [.pointer (some ⟨o, 0, none⟩), .int .i64 x] s) (J1 s o (bs ++ leB x 2)) := by
 refine Zh fun Q hQ => ?_
 rw [zP hO.imany hO.fmany rfl]
 simp (maxSteps := 4000000) only [zg, zo, ze, zK, zB, zi, zm, zA, zd, zb, zc, Nat.reduceEqDiff, z0, zh, List.getElem?_cons_zero, List.getElem?_cons_succ, z1, z4, z5, pp, pv, d58]
 refine W.mono (Vw hO h hG hx hm (size := 2) (by omega) hlen) ?_
 rintro ⟨v5, s5⟩ ⟨hv5, h5⟩
 simp only at hv5 h5
 subst hv5
 simp (maxSteps := 4000000) only [zf, zl, ze, zj, Zw, zd, zn, zy]
 exact hQ _ ⟨rfl, h5⟩
theorem Gk (h : J2 s o bv bs) (hG : s.Good) (x : Int) (hlen : bs.length + 8 ≤ 1048576) :
 W (dcall E (d + 3) (.func (.func 60) #[] #[]) [.pointer (some ⟨o, 0, none⟩), .int .i64 x] s) (J1 s o (bs ++ leB x 8)) := by
 refine Zh fun Q hQ => ?_
 rw [zP hO.iint hO.fint rfl]
 simp (maxSteps := 4000000) only [zg, zo, ze, zr, zj, zK, XH, zB, zp, zi, zm, zA, zd, zb, zc, Nat.reduceEqDiff, z0, zh, List.getElem?_cons_zero, List.getElem?_cons_succ, z1, z4, z5, pp, pv, d60]
 refine W.mono (Ri hO h hG x (size := 8) (by omega) hlen) ?_
 rintro ⟨v5, s5⟩ ⟨hv5, h5⟩
 simp only at hv5 h5
 subst hv5
 simp (maxSteps := 4000000) only [zf, zl, ze, zj, Zw, zd, zn, zy]
 exact hQ _ ⟨rfl, h5⟩
theorem JP (h : J2 s o bv bs) (hG : s.Good) {x : Int} (hx : 0 ≤ x) (hm : x ≤ 255) (hlen : bs.length + 1 ≤ 1048576) :
 W (dcall E (d + 4) (.func (.func 59) #[] #[]) [.pointer (some ⟨o, 0, none⟩), .int .i64 x] s) (J1 s o (bs ++ leB x 1)) := by
 refine Zh fun Q hQ => ?_
 rw [zP hO.ibyte hO.fbyte rfl]
 simp (maxSteps := 4000000) only [zg, zo, ze, zK, zB, zi, zm, zA, zd, zb, zc, Nat.reduceEqDiff, z0, zh, List.getElem?_cons_zero, List.getElem?_cons_succ, z1, z4, z5, pp, pv, d59]
 refine W.mono (Vw hO h hG hx hm (size := 1) (by omega) hlen) ?_
 rintro ⟨v5, s5⟩ ⟨hv5, h5⟩
 simp only at hv5 h5
 subst hv5
 simp (maxSteps := 4000000) only [zf, zl, ze, zj, Zw, zd, zn, zy]
 exact hQ _ ⟨rfl, h5⟩
theorem CV (h : J2 s o bv bs) (hG : s.Good) (x : Bool) (hlen : bs.length + 1 ≤ 1048576) :
 W (dcall E (d + 5) (.func (.func 61) #[] #[]) [.pointer (some ⟨o, 0, none⟩), .bool x] s) (J1 s o (bs ++ QG x)) := by
 refine Zh fun Q hQ => ?_
 rw [zP hO.iflag hO.fflag rfl]
 cases x with
 | false =>
  simp (maxSteps := 4000000) only [zq, zg, zD, za, zf, zl, zo, zt, ze, zK, zB, zi, zm, zA, zd, zb, zc, z0, zh, List.getElem?_cons_zero, List.getElem?_cons_succ, z1, z4, z5, reduceCtorEq, pp, pv, d61]
  refine W.mono (JP hO h hG (x := 0) (by omega) (by omega) hlen) ?_
  rintro ⟨v5, s5⟩ ⟨hv5, h5⟩
  simp only at hv5 h5
  subst hv5
  simp (maxSteps := 4000000) only [zf, zl, ze, zj, Zw, zd, zn, zy]
  exact hQ _ ⟨rfl, h5⟩
 | true =>
  simp (maxSteps := 4000000) only [zq, zg, zD, za, zf, zl, zo, zN, ze, zK, zB, zi, zm, zA, zd, zb, zc, z0, zh, List.getElem?_cons_zero, List.getElem?_cons_succ, z1, z4, z5, reduceCtorEq, pp, pv, d61]
  refine W.mono (JP hO h hG (x := 1) (by omega) (by omega) hlen) ?_
  rintro ⟨v5, s5⟩ ⟨hv5, h5⟩
  simp only at hv5 h5
  subst hv5
  simp (maxSteps := 4000000) only [zf, zl, ze, zj, Zw, zd, zn, zy]
  exact hQ _ ⟨rfl, h5⟩
theorem CW (h : J2 s o bv bs) (hG : s.Good) {y : Value} (hy : SlX s 1 y (Zy cs)) (hne : o ∉ blk y) (hc : cs.length ≤ 65536) (hlen : bs.length + 4 + cs.length ≤ 1048576) :
 W (dcall E (d + 4) (.func (.func 62) #[] #[]) [.pointer (some ⟨o, 0, none⟩), y] s) (J1 s o (bs ++ (leB (cs.length : Int) 4 ++ cs))) := by
 obtain ⟨a, hyv⟩ := hy.shape
 rw [Ze] at hyv
 refine Zh fun Q hQ => ?_
 rw [zP hO.iblob hO.fblob rfl]
 subst hyv
 simp (maxSteps := 4000000) only [zq, zg, zo, ze, zr, zj, zK, ZE, zB, zp, zi, zm, zA, zd, zb, zc, Nat.reduceEqDiff, z0, zh, List.getElem?_cons_zero, List.getElem?_cons_succ, z1, z4, z5, pp, pv, d62]
 refine W.mono (Vw hO h hG (x := (cs.length : Int)) (most := 65536) (by omega) (by omega) (size := 4) (by omega) (by omega)) ?_
 rintro ⟨v5, s5⟩ ⟨hv5, b5, h5, X5, n5⟩
 simp only at hv5 h5 X5
 subst hv5
 simp (maxSteps := 4000000) only [zg, za, zf, zl, zo, ze, zK, zB, zi, zA, zd, zb, zc, Nat.reduceEqDiff, z0, zh, List.getElem?_cons_zero, List.getElem?_cons_succ, z1, z4, z5, reduceCtorEq]
 refine W.mono (Rh hO (d := d + 2) h5 (X5.good hG) (hy.keep X5 (fun k hk e => hne (List.mem_singleton.1 e ▸ hk))) (by rw [List.length_append, ZP]; omega)) ?_
 rintro ⟨v6, s6⟩ ⟨hv6, b6, h6, X6, n6⟩
 simp only at hv6 h6 X6
 subst hv6
 simp (maxSteps := 4000000) only [zf, zl, ze, zj, Zw, zd, zn, zy]
 rw [List.append_assoc] at h6
 exact hQ _ ⟨rfl, b6, h6, X5.trans' X6, fun k hk => by have := n6 k hk; have := X5.le; omega⟩
omit hO in
theorem J1.next {s1 s2 : DS} {v : Value} {cs : List Int} (X : Ext [o] s s1) (h : J1 s1 o cs (v, s2)) : J1 s o cs (v, s2) := by
 obtain ⟨h1, b, h2, h3, h4⟩ := h
 exact ⟨h1, b, h2, X.trans' h3, fun k hk => Nat.le_trans X.le (h4 k hk)⟩
theorem Li (hG : s.Good) (r : Rp) (hm : Xi r) : W (dcall E (d + 6) (.func (.func 63) #[] #[]) [.agg ⟨r.cells⟩] s) fun p => SlX p.2 1 p.1 (Zy (encR r)) ∧ Ext [] s p.2 ∧ ∀ k, k ∈ blk p.1 → s.next ≤ k := by
 obtain ⟨_, ⟨w1, w2, w3, w4⟩, w5, w6, w7, w8⟩ := hm
 refine Zh fun Q hQ => ?_
 rw [zP hO.ienc hO.fenc rfl]
 simp (maxSteps := 4000000) (maxDischargeDepth := 8) only [zq, zg, za, zf, zl, zo, ze, zr, ZC, zj, zK, Zl, zF, z9, ZA, zB, zp, zi, zm, zA, zd, zb, zc, z0, zh, List.getElem?_cons_zero, z1, z4, z5, zG, Cells.get, getN, zx, zM, pp, pv, zQ, Nat.add_zero, zk, zw, zC, zJ, Nat.reduceLT, Nat.lt_add_one, d63, hG, Rp.cells]
 obtain ⟨S0, hS0⟩ : ∃ S0 : DS, S0 = (s.new (.cells (.list [.int .i64 r.c, .int .i64 r.n, .bool r.rej, .int .i64 r.trap, .int .i64 r.v, .int .i64 r.gas]) false)).new (.cells (.list [.slice none 0 0, .bool false, .bool false]) false) := ⟨_, rfl⟩
 rw [← hS0]
 have X0 : Ext [] s S0 := by rw [hS0]; exact Ext.new.trans' Ext.new
 have g0 : S0.get s.next = some (.cells (.list [.int .i64 r.c, .int .i64 r.n, .bool r.rej, .int .i64 r.trap, .int .i64 r.v, .int .i64 r.gas]) false) := by rw [hS0]; simp (maxSteps := 4000000) (maxDischargeDepth := 8) only [zQ, zk, zw, zC, Nat.lt_add_one, hG]
 have O0 : J2 S0 (s.next + 1) (.slice none 0 0) [] := ⟨by rw [hS0]; simp (maxSteps := 4000000) (maxDischargeDepth := 8) only [zQ, zk, zC, hG], X0.wrs (hG _ (Nat.le_succ _)).2, .inl ⟨rfl, rfl⟩, by simp [blk]⟩
 have G0 := X0.good hG
 have l0 := DS.get_lt' g0
 clear hS0
 skip
 refine W.mono (JP hO (d := d + 1) O0 G0 (x := r.c) (by omega) (by omega) (by simp [ZP, QG])) ?_
 rintro ⟨v1, S1⟩ ⟨hv1, bv1, O1, Z1, n1⟩
 simp only at hv1 O1 Z1 n1
 subst hv1
 have X1 : Ext [] s S1 := X0.trans Z1 (by simp)
 have G1 := X1.good hG
 have g1 := Z1.keep g0 (by simp)
 have le1 := X1.le
 simp (maxSteps := 4000000) only [zq, zg, za, zf, zl, zo, ze, zr, zj, zK, zF, z9, zB, zp, zi, zA, zd, zb, zc, Nat.reduceEqDiff, z0, z1, z4, z5, zG, Cells.get, getN, Nat.zero_add, g1]
 refine W.mono (Gk hO (d := d + 2) O1 G1 r.n (by simp [ZP, QG])) ?_
 rintro ⟨v2, S2⟩ ⟨hv2, bv2, O2, Z2, n2⟩
 simp only at hv2 O2 Z2 n2
 subst hv2
 have X2 : Ext [] s S2 := X1.trans Z2 (by simp)
 have G2 := X2.good hG
 have g2 := Z2.keep g1 (by simp)
 have le2 := X2.le
 simp (maxSteps := 4000000) only [zq, zg, za, zf, zl, zo, ze, zr, zj, zK, zF, z9, zB, zp, zi, zA, zd, zb, zc, Nat.reduceEqDiff, z0, z1, z4, z5, zG, Cells.get, getN, Nat.zero_add, g2]
 refine W.mono (CV hO (d := d) O2 G2 r.rej (by simp [ZP, QG])) ?_
 rintro ⟨v3, S3⟩ ⟨hv3, bv3, O3, Z3, n3⟩
 simp only at hv3 O3 Z3 n3
 subst hv3
 have X3 : Ext [] s S3 := X2.trans Z3 (by simp)
 have G3 := X3.good hG
 have g3 := Z3.keep g2 (by simp)
 have le3 := X3.le
 simp (maxSteps := 4000000) only [zq, zg, za, zf, zl, zo, ze, zr, zj, zK, zF, z9, zB, zp, zi, zA, zd, zb, zc, Nat.reduceEqDiff, z0, z1, z4, z5, zG, Cells.get, getN, Nat.zero_add, g3]
 refine W.mono (JP hO (d := d + 1) O3 G3 (x := r.trap) (by omega) (by omega) (by simp [ZP, QG])) ?_
 rintro ⟨v4, S4⟩ ⟨hv4, bv4, O4, Z4, n4⟩
 simp only at hv4 O4 Z4 n4
 subst hv4
 have X4 : Ext [] s S4 := X3.trans Z4 (by simp)
 have G4 := X4.good hG
 have g4 := Z4.keep g3 (by simp)
 have le4 := X4.le
 simp (maxSteps := 4000000) only [zq, zg, za, zf, zl, zo, ze, zr, zj, zK, zF, z9, zB, zp, zi, zA, zd, zb, zc, Nat.reduceEqDiff, z0, z1, z4, z5, zG, Cells.get, getN, Nat.zero_add, g4]
 refine W.mono (Gk hO (d := d + 2) O4 G4 r.v (by simp [ZP, QG])) ?_
 rintro ⟨v5, S5⟩ ⟨hv5, bv5, O5, Z5, n5⟩
 simp only at hv5 O5 Z5 n5
 subst hv5
 have X5 : Ext [] s S5 := X4.trans Z5 (by simp)
 have G5 := X5.good hG
 have g5 := Z5.keep g4 (by simp)
 have le5 := X5.le
 simp (maxSteps := 4000000) only [zq, zg, za, zf, zl, zo, ze, zr, zj, zK, zF, z9, zB, zp, zi, zA, zd, zb, zc, Nat.reduceEqDiff, z0, z1, z4, z5, zG, Cells.get, getN, Nat.zero_add, g5]
 refine W.mono (Gk hO (d := d + 2) O5 G5 r.gas (by simp [ZP, QG])) ?_
 rintro ⟨v6, S6⟩ ⟨hv6, bv6, O6, Z6, n6⟩
 simp only at hv6 O6 Z6 n6
 subst hv6
 have X6 : Ext [] s S6 := X5.trans Z6 (by simp)
 have G6 := X6.good hG
 have g6 := Z6.keep g5 (by simp)
 have le6 := X6.le
 have gf := O6.go
 obtain ⟨a6, h6⟩ := O6.sl.shape
 subst h6
 simp (maxSteps := 4000000) only [zq, zg, zI, za, zf, zl, zo, ze, zr, zj, zK, z8, zF, z9, zp, zu, zi, zd, zb, zc, Nat.reduceEqDiff, z0, z1, zn, zy, zG, Cells.get, getN, List.nil_append, Nat.add_zero, gf]
 have he : encR r = ((((([] ++ leB r.c 1) ++ leB r.n 8) ++ QG r.rej) ++ leB r.trap 1) ++ leB r.v 8) ++ leB r.gas 8 := by
  simp only [encR, FC, List.nil_append, List.append_assoc]
 refine hQ _ ⟨by rw [he]; exact O6.sl, X6, fun k hk => ?_⟩
 have h1 := n6 k hk
 have h2 := le5
 omega
end
theorem Ta {A : Int → Option TR} {i : Nat} : (rrC (A (i : Int)))[0]? = some (.bool (QF A i)) := by
 unfold QF
 cases A (i : Int) <;> rfl
def Ci (A : Int → Option TR) (i : Nat) : Nat := ((List.range i).filter (QF A)).length
theorem HT (A : Int → Option TR) (i : Nat) : Ci A (i + 1) = if QF A i = true then Ci A i + 1 else Ci A i := by
 unfold Ci
 rw [List.range_succ, List.filter_append, List.length_append]
 cases h : QF A i <;> simp [h]
theorem LN (A : Int → Option TR) (i : Nat) : Ci A i ≤ i := by
 have := List.length_filter_le (QF A) (List.range i)
 rw [List.length_range] at this
 exact this
def rtB (A : Int → Option TR) (i : Nat) : List Int := leB (((XL A).length : Nat) : Int) 2 ++ ((List.range i).filter (QF A)).flatMap fun j : Nat => V3 (QX A (j : Int))
theorem Hk (A : Int → Option TR) (i : Nat) : rtB A (i + 1) = if QF A i = true then rtB A i ++ V3 (QX A (i : Int)) else rtB A i := by
 unfold rtB
 rw [List.range_succ, List.filter_append, List.flatMap_append]
 cases h : QF A i <;> simp [h]
theorem M6 (A : Int → Option TR) : rtB A 64 = Qc A := by
 unfold rtB Qc KJ QY
 rw [List.length_map, List.flatMap_map]
 rfl
theorem ST (A : Int → Option TR) : ∀ i, (rtB A i).length ≤ 2 + i * 41
 | 0 => by simp [rtB, ZP]
 | i + 1 => by
  have := ST A i
  have h2 := Fg A (i : Int)
  rw [Hk]
  split
  · rw [List.length_append, DH]
    omega
  · omega
structure RP1 (S : DS) (q o : Nat) (A : Int → Option TR) (n : Nat) (y : St) : Prop where
 ex : ∃ i : Nat, n = 64 - i ∧ i ≤ 64 ∧ y.s = S ∧ y.defers = [] ∧ (y.t.get 0 = some (.pointer (some ⟨q, 0, none⟩)) ∧ y.t.get 3 = some (.pointer (some ⟨o, 0, none⟩)) ∧ y.t.get 4 = some (.int .i64 (Ci A i : Int)) ∧ y.t.get 5 = some (.int .i64 (i : Int)))
structure RP2 (S : DS) (q o : Nat) (A : Int → Option TR) (n : Nat) (y : St) : Prop where
 ex : ∃ (i : Nat) (bv : Value), n = 64 - i ∧ i ≤ 64 ∧ y.defers = [] ∧ (y.t.get 0 = some (.pointer (some ⟨q, 0, none⟩)) ∧ y.t.get 3 = some (.pointer (some ⟨o, 0, none⟩)) ∧ y.t.get 6 = some (.int .i64 (i : Int))) ∧ J2 y.s o bv (rtB A i) ∧ (∀ k, k ∈ blk bv → S.next ≤ k) ∧ Ext [o] S y.s
section
variable {E : Env} (hO : Gt E) {s : DS} {d q : Nat} {A : Int → Option TR}
include hO
theorem Pm (c : QT s q A) (hA : ∀ (i : Nat) (x : TR), A (i : Int) = some x → TO x ∧ x.key = (i : Int)) (hG : s.Good) :
 W (dcall E (d + 7) (.func (.func 33) #[] #[]) [.pointer (some ⟨q, 0, none⟩)] s) fun p => SlX p.2 1 p.1 (Zy (Qc A)) ∧ Ext [] s p.2 ∧ ∀ k, k ∈ blk p.1 → s.next ≤ k := by
 have hlf := hO.lf
 have gq := c.gq
 have hql := DS.get_lt' gq
 refine Zh fun Q hQ => ?_
 rw [zP hO.ipack hO.fpack rfl]
 simp (maxSteps := 4000000) (maxDischargeDepth := 8) only [zq, zg, Zp, za, zf, zl, zo, ze, ZC, zj, zK, Zl, ZA, zi, zm, zd, zb, z1, zx, zM, pp, pv, d33, hG]
 obtain ⟨S0, hS0⟩ : ∃ S0 : DS, S0 = s.new (.cells (.list [.slice none 0 0, .bool false, .bool false]) false) := ⟨_, rfl⟩
 rw [← hS0]
 have X0 : Ext [] s S0 := by rw [hS0]; exact Ext.new
 have O0 : J2 S0 s.next (.slice none 0 0) [] := ⟨by rw [hS0]; exact DS.new_get_self hG, X0.wrs (hG _ (Nat.le_refl _)).2, .inl ⟨rfl, rfl⟩, by simp [blk]⟩
 have G0 := X0.good hG
 have gq0 := X0.keep gq (by simp)
 clear hS0
 refine Wc (RP1 S0 q s.next A) 64 (by omega) ⟨0, rfl, by omega, rfl, rfl, by simp (maxSteps := 4000000) only [zb, zc, Nat.reduceEqDiff, z0, zh, List.getElem?_cons_zero, Bool.true_and, true_and, reduceCtorEq]; exact ⟨rfl, rfl⟩⟩ ?_
 rintro n ⟨t, S, ds⟩ hn ⟨i, rfl, hi, hS, hds, ⟨t0, t3, t4, t5⟩⟩
 simp only at hS hds t0 t3 t4 t5
 subst hS hds
 by_cases ci : i < 64
 · have e1 : (i : Int) < 64 := by omega
   have hg := J9 A ci Ta
   have hle := LN A i
   have w1 : Zj .i64 ((i : Int) + 1) = ((i + 1 : Nat) : Int) := by rw [ZV (by omega) (by omega)]; omega
   have w2 : Zj .i64 ((Ci A i : Int) + 1) = ((Ci A i + 1 : Nat) : Int) := by rw [ZV (by omega) (by omega)]; omega
   have hs := HT A i
   rw [Nat.add_zero] at hg
   cases hia : QF A i with
   | true =>
    rw [hia] at hg
    rw [hia, if_pos rfl] at hs
    simp (maxSteps := 4000000) only [zq, zg, zD, Zp, zO, za, Zk, zf, ZB, zl, zo, zN, ze, zr, zj, zK, zV, z8, zF, z9, zp, Zc, zX, zi, zm, zd, zb, zc, Nat.reduceEqDiff, z0, z1, zG, Cells.get, Nat.zero_add, Nat.blt_eq, if_true, reduceCtorEq, Nat.add_zero, Zq, decide_true, QS, t0, t3, t4, t5, e1, gq0, ci, hg, w1, w2]
    exact ⟨64 - (i + 1), by omega, ⟨i + 1, rfl, by omega, rfl, rfl, by simp (maxSteps := 4000000) only [zb, zc, Nat.reduceEqDiff, z0, Bool.and_self, and_self, reduceCtorEq, t0, t3, t4, t5, hs]⟩⟩
   | false =>
    rw [hia] at hg
    rw [hia, if_neg (by simp)] at hs
    simp (maxSteps := 4000000) only [zq, zg, zD, Zp, zO, za, Zk, zf, ZB, zl, zo, zN, zt, ze, zr, zj, zK, zV, z8, zF, z9, zp, Zc, zX, zi, zm, zd, zb, zc, Nat.reduceEqDiff, z0, z1, zG, Cells.get, Nat.zero_add, Nat.blt_eq, if_true, reduceCtorEq, Nat.add_zero, Zq, decide_true, QS, t0, t3, t4, t5, e1, gq0, ci, hg, w1, w2]
    exact ⟨64 - (i + 1), by omega, ⟨i + 1, rfl, by omega, rfl, rfl, by simp (maxSteps := 4000000) only [zb, zc, Nat.reduceEqDiff, z0, Bool.and_self, and_self, reduceCtorEq, t0, t3, t4, t5, hs]⟩⟩
 obtain rfl : i = 64 := by omega
 have e1 : ¬ (((64 : Nat) : Int) < 64) := by omega
 have hcn : Ci A 64 = (XL A).length := rfl
 have hol := Ja A
 rw [hcn] at t4
 simp (maxSteps := 4000000) only [zq, zg, zD, Yx, za, ZH, ZI, zf, ZN, zl, zo, zt, ze, zr, zj, zK, zV, zB, Zc, zX, zi, zm, zA, zd, zb, zc, Nat.reduceEqDiff, z0, z1, z4, z5, if_true, decide_false, t0, t3, t4, t5, e1]
 refine W.mono (N0 hO (d := d + 2) O0 G0 (x := ((XL A).length : Int)) (by omega) (by omega) (by simp)) ?_
 rintro ⟨v1, S1⟩ ⟨hv1, bv1, O1, Z1, n1⟩
 simp only [List.nil_append] at hv1 O1 Z1 n1
 subst hv1
 have X1 : Ext [] s S1 := X0.trans Z1 (by simp)
 simp (maxSteps := 4000000) only [zq, zg, Zp, za, zf, zl, zo, ze, zK, zm, zd, t0, t3]
 have hr0 : rtB A 0 = leB ((XL A).length : Int) 2 := by unfold rtB; simp
 refine Wc (RP2 s q s.next A) 64 (by omega) ⟨0, bv1, rfl, by omega, rfl, by simp (maxSteps := 4000000) only [zb, zc, Nat.reduceEqDiff, z0, Bool.true_and, true_and, reduceCtorEq, t0, t3]; rfl, by rw [hr0]; exact O1, fun k hk => by have := n1 k hk; have := X0.le; omega, X1.weaken (by simp)⟩ ?_
 rintro n ⟨t, S, ds⟩ hn ⟨i, bv, rfl, hi, hds, ⟨t0, t3, t6⟩, O2, hb2, X2⟩
 simp only at hds t0 t3 t6 O2 hb2 X2
 subst hds
 have G2 := X2.good hG
 have gq2 := X2.keep gq (by simp; omega)
 have ho2 := DS.get_lt' O2.go
 by_cases ci : i < 64
 · have e1 : (i : Int) < 64 := by omega
   have w1 : Zj .i64 ((i : Int) + 1) = ((i + 1 : Nat) : Int) := by rw [ZV (by omega) (by omega)]; omega
   have hs := Hk A i
   have hlen := ST A i
   have hld : ldA 9 (.pointer (some ⟨q, i * 9, none⟩)) S = some (.agg ⟨rrC (A (i : Int))⟩) := by
    have := Dr A ci (j := 0) (n := 9) (by omega)
    simp only [ldA, DS.read, gq2]
    rw [Nat.add_zero] at this
    rw [this, List.drop_zero, List.take_of_length_le (by rw [J6]; exact Nat.le_refl _)]
   cases hia : A (i : Int) with
   | none =>
    have hz : QF A i = false := by unfold QF; rw [hia]; rfl
    rw [hz, if_neg (by simp)] at hs
    rw [hia] at hld
    simp only [rrC] at hld
    simp (maxSteps := 4000000) (maxDischargeDepth := 8) only [zq, zg, zD, Zp, zO, Yx, za, ZH, ZI, zf, ZB, zl, zo, zN, ze, zr, zU, zj, zK, zV, YU, z8, zF, z9, Zx, zW, zp, Zc, zX, zi, zm, zd, zE, zb, zc, z0, z1, zG, Cells.get, getN, Nat.zero_add, Nat.reduceAdd, Zd, zx, List.length_cons, List.length_nil, zL, zH, Bool.and_self, Bool.and_true, Nat.beq_eq, Nat.ble_eq, Nat.blt_eq, Nat.le_refl, if_true, Bool.not_false, DS.wrC, Cells.size, Cells.fillFrom, Cells.set, Zb, DS.upd_get_self, Option.map_some, wrN, Yh, Nat.add_zero, Zq, decide_true, QS, zk, zC, Zi, zJ, ZF, Nat.reduceLT, Nat.lt_add_one, Nat.succ_pos, t0, t3, t6, e1, ci, hld, G2, w1]
    have X3 : ∀ o1 o2, Ext [] S ((S.new o1).upd S.next o2) := fun o1 o2 => (Ext.new (F := [])).trans (Ext.upd (F := [S.next]) (.inl (by simp))) (by simp)
    exact ⟨64 - (i + 1), by omega, ⟨i + 1, bv, rfl, by omega, rfl, by simp (maxSteps := 4000000) only [zb, zc, Nat.reduceEqDiff, z0, Bool.and_self, and_self, reduceCtorEq, t0, t3, t6], by rw [hs]; exact O2.keep (X3 _ _) (by simp) (by simp), hb2, X2.trans' ((X3 _ _).weaken (by simp))⟩⟩
   | some x =>
    have hz : QF A i = true := by unfold QF; rw [hia]; rfl
    rw [hz, if_pos rfl] at hs
    rw [hia] at hld
    simp only [rrC, Rp.cells] at hld
    obtain ⟨hrow, hkey⟩ := hA i x hia
    have hln : QX A (i : Int) = JT x := by unfold QX; rw [hia]
    obtain ⟨S3, hS3⟩ : ∃ S3 : DS, S3 = (S.new (.cells (.list [.bool false, .int .i64 0, .bool false, .int .i64 0, .int .i64 0, .bool false, .int .i64 0, .int .i64 0, .int .i64 0]) false)).upd S.next (.cells (.list [.bool true, .int .i64 x.num, .bool x.done, .int .i64 x.rep.c, .int .i64 x.rep.n, .bool x.rep.rej, .int .i64 x.rep.trap, .int .i64 x.rep.v, .int .i64 x.rep.gas]) false) := ⟨_, rfl⟩
    have X3 : Ext [] S S3 := by rw [hS3]; exact (Ext.new (F := [])).trans (Ext.upd (F := [S.next]) (.inl (by simp))) (by simp)
    have g3 : S3.get S.next = some (.cells (.list [.bool true, .int .i64 x.num, .bool x.done, .int .i64 x.rep.c, .int .i64 x.rep.n, .bool x.rep.rej, .int .i64 x.rep.trap, .int .i64 x.rep.v, .int .i64 x.rep.gas]) false) := by rw [hS3, DS.upd_get_self, DS.new_get_self G2]; rfl
    simp (maxSteps := 4000000) (maxDischargeDepth := 8) only [zq, zg, zD, Zp, zO, za, zf, zl, zo, zN, zt, ze, zr, zU, zj, zK, zV, YU, z8, zF, z9, Zx, zW, zB, zp, Zc, zX, zi, zm, zA, zd, zE, zb, zc, z0, z1, z4, z5, zG, Cells.get, getN, Nat.zero_add, Nat.reduceAdd, Zd, zx, List.length_cons, List.length_nil, zL, zH, Bool.and_self, Bool.and_true, Nat.beq_eq, Nat.ble_eq, Nat.blt_eq, Nat.le_refl, if_true, Bool.not_true, DS.wrC, Cells.size, Cells.fillFrom, Cells.set, Zb, wrN, Yh, Nat.add_zero, Zq, decide_true, QS, zk, zC, Zi, zJ, ZF, Nat.reduceLT, Nat.lt_add_one, Nat.succ_pos, t0, t3, t6, e1, ci, hld, G2, w1, ← hS3, g3]
    clear hS3
    have O3 := O2.keep X3 (by simp) (by simp)
    have G3 := X3.good G2
    refine W.mono (JP hO (d := d + 2) O3 G3 (x := (i : Int)) (by omega) (by omega) (by omega)) ?_
    rintro ⟨v4, S4⟩ ⟨hv4, bv4, O4, Z4, n4⟩
    simp only at hv4 O4 Z4 n4
    subst hv4
    have g4 := Z4.keep g3 (by simp; omega)
    have G4 := Z4.good G3
    simp (maxSteps := 4000000) only [zq, zg, za, zf, zl, zo, ze, zr, zj, zK, zF, z9, zB, zp, zi, zA, zd, zb, zc, Nat.reduceEqDiff, z0, z1, z4, z5, zG, Cells.get, getN, Nat.zero_add, t3, g4]
    refine W.mono (Gk hO (d := d + 3) O4 G4 x.num (by rw [List.length_append, ZP]; omega)) ?_
    rintro ⟨v5, S5⟩ ⟨hv5, bv5, O5, Z5, n5⟩
    simp only at hv5 O5 Z5 n5
    subst hv5
    have g5 := Z5.keep g4 (by simp; omega)
    have G5 := Z5.good G4
    simp (maxSteps := 4000000) only [zq, zg, za, zf, zl, zo, ze, zr, zj, zK, zF, z9, zB, zp, zi, zA, zd, zb, zc, Nat.reduceEqDiff, z0, z1, z4, z5, zG, Cells.get, getN, Nat.zero_add, t3, g5]
    refine W.mono (CV hO (d := d + 1) O5 G5 x.done (by simp only [List.length_append, ZP]; omega)) ?_
    rintro ⟨v6, S6⟩ ⟨hv6, bv6, O6, Z6, n6⟩
    simp only at hv6 O6 Z6 n6
    subst hv6
    have g6 := Z6.keep g5 (by simp; omega)
    have G6 := Z6.good G5
    have ho6 := DS.get_lt' O6.go
    have le3 := X3.le
    have le4 := Z4.le
    have le5 := Z5.le
    have le6 := Z6.le
    have ls := DS.get_lt' g3
    have X06 : Ext [s.next] s S6 := ((((X2.trans' (X3.weaken (by simp))).trans' Z4).trans' Z5).trans' Z6)
    have fin : ∀ (S9 : DS) (b9 : Value) (body : List Int), (JT x).2.2 = body → J2 S9 s.next b9 ((((rtB A i ++ leB (i : Int) 1) ++ leB x.num 8) ++ QG x.done) ++ (leB (body.length : Int) 4 ++ body)) → J2 S9 s.next b9 (rtB A (i + 1)) := by
     intro S9 b9 body hb h
     have he : rtB A (i + 1) = (((rtB A i ++ leB (i : Int) 1) ++ leB x.num 8) ++ QG x.done) ++ (leB (body.length : Int) 4 ++ body) := by
      rw [hs, hln, ← hb, ← hkey]
      simp only [V3, JT, List.append_assoc]
     rw [he]
     exact h
    cases hd : x.done with
    | false =>
     rw [hd] at g6 O6 fin
     simp (maxSteps := 4000000) only [zq, zg, zD, za, zf, zl, zo, zt, ze, zr, zj, zK, zF, z9, zB, zp, zi, zm, zA, zd, zb, zc, Nat.reduceEqDiff, z0, z1, z4, z5, zG, Cells.get, getN, Nat.zero_add, t3, g6]
     refine W.mono (CW hO (d := d + 2) (cs := []) (y := .slice none 0 0) O6 G6 (.inl ⟨rfl, rfl⟩) (by simp [blk]) (by simp) (by simp only [List.length_append, ZP, QG, List.length_nil]; omega)) ?_
     rintro ⟨v7, S7⟩ ⟨hv7, bv7, O7, Z7, n7⟩
     simp only at hv7 O7 Z7 n7
     subst hv7
     simp (maxSteps := 4000000) only [zg, za, Zk, zf, ZB, zl, zo, ze, zr, zj, zK, zV, Zc, zX, zi, zm, zd, zb, zc, Nat.reduceEqDiff, z0, z1, if_true, t0, t3, t6, w1]
     exact ⟨64 - (i + 1), by omega, ⟨i + 1, bv7, rfl, by omega, rfl, by simp (maxSteps := 4000000) only [zb, zc, Nat.reduceEqDiff, z0, Bool.and_self, and_self, reduceCtorEq, t0, t3], fin _ _ [] (by unfold JT; rw [hd]; rfl) O7, fun k hk => by have := n7 k hk; have := X2.le; omega, X06.trans' Z7⟩⟩
    | true =>
     rw [hd] at g6 O6 fin
     have hld6 : ldA 6 (.pointer (some ⟨S.next, 3, none⟩)) S6 = some (.agg ⟨x.rep.cells⟩) := by
      simp only [ldA, DS.read, g6]
      rfl
     have hdl : ldV (.pointer (some ⟨S.next, 2, none⟩)) S6 = some (.bool true) := by
      simp only [ldV, g6]
      rfl
     simp (maxSteps := 4000000) (maxDischargeDepth := 8) only [zq, zg, zD, za, zf, zl, zo, zN, ze, zr, zj, zK, zF, z9, zB, zp, zi, zA, zd, zb, zc, z0, z1, z4, z5, zG, Cells.get, getN, Nat.zero_add, Yh, zJ, Nat.reduceLT, t3, g6, hld6, Cells.get, getN]
     refine W.mono (Li hO (d := d) G6 x.rep (hrow.done hd).1) ?_
     rintro ⟨v7, S7⟩ ⟨h7, Z7, n7⟩
     simp only at h7 Z7 n7
     simp (maxSteps := 4000000) only [zo, ze, zB, zi, zA, zd, zb, zc, Nat.reduceEqDiff, z0, z1, z4, z5, t3]
     have he27 := Tp x.rep
     refine W.mono (CW hO (d := d + 2) (cs := encR x.rep) (O6.keep Z7 (by simp) (by simp)) (Z7.good G6) h7 (fun hk => by have := n7 _ hk; omega) (by omega) (by simp only [List.length_append, ZP, QG]; omega)) ?_
     rintro ⟨v8, S8⟩ ⟨hv8, bv8, O8, Z8, n8⟩
     simp only at hv8 O8 Z8 n8
     subst hv8
     have le7 := Z7.le
     simp (maxSteps := 4000000) only [zg, za, Zk, zf, ZB, zl, zo, ze, zr, zj, zK, zV, Zc, zX, zi, zm, zd, zb, zc, Nat.reduceEqDiff, z0, z1, if_true, t0, t3, t6, w1]
     exact ⟨64 - (i + 1), by omega, ⟨i + 1, bv8, rfl, by omega, rfl, by simp (maxSteps := 4000000) only [zb, zc, Nat.reduceEqDiff, z0, Bool.and_self, and_self, reduceCtorEq, t0, t3], fin _ _ (encR x.rep) (by unfold JT; rw [hd]; rfl) O8, fun k hk => by have := n8 k hk; have := X2.le; omega, (X06.trans' (Z7.weaken (by simp))).trans' Z8⟩⟩
 obtain rfl : i = 64 := by omega
 have e1 : ¬ (((64 : Nat) : Int) < 64) := by omega
 have gf := O2.go
 rw [M6] at O2
 obtain ⟨a6, h6⟩ := O2.sl.shape
 subst h6
 simp (maxSteps := 4000000) only [zq, zg, zD, zI, Yx, za, ZH, ZI, zf, ZN, zl, zo, zt, ze, zr, zj, zK, zV, z8, zF, z9, zp, Zc, zX, zu, zi, zm, zd, zb, zc, Nat.reduceEqDiff, z0, z1, zn, zy, zG, Cells.get, getN, if_true, Nat.add_zero, decide_false, t0, t3, t6, e1, gf]
 exact hQ _ ⟨O2.sl, (Ext.refl (F := [])).trans X2 (by simp), hb2⟩
end
end Go.Dx.TbA
