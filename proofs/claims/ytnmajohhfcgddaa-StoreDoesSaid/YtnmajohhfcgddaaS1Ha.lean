/- A part. -/
import Derived.Test.YtnmajohhfcgddaaS1Ga
import Derived.Test.YtnmajohhfcgddaaDxFv
import Derived.Test.YtnmajohhfcgddaaDxSk
import Derived.Test.YtnmajohhfcgddaaDxBl
import Derived.Test.YtnmajohhfcgddaaS1Fa
set_option linter.unusedVariables false
set_option linter.unusedSimpArgs false
set_option linter.unusedSectionVars false
set_option maxRecDepth 100000
set_option maxHeartbeats 4000000
namespace Go.Dx.StA
open Go Go.Dx Go.Dx.Search Go.Dx.St Go.Proofs.Ytnmajohhfcgddaa
structure Vy (s : DS) (o : Nat) (bv : Value) (bs : List Int) : Prop where
 go : s.get o = some (.cells (.list [bv, .bool false, .bool false]) false)
 wo : s.wr o = true
 sl : SlX s 1 bv (ZZ bs)
 ne : o ∉ blk bv
structure KV (E : Env) : Prop where
 fput : E.fn 86 = some d86
 iput : E.intr 86 = none
 flow : E.fn 69 = some d69
 ilow : E.intr 69 = none
 fcount : E.fn 68 = some d68
 icount : E.intr 68 = none
 fshort : E.fn 48 = some d48
 ishort : E.intr 48 = none
 fmany : E.fn 49 = some d49
 imany : E.intr 49 = none
 fint : E.fn 50 = some d50
 iint : E.intr 50 = none
 fpack : E.fn 31 = some d31
 ipack : E.intr 31 = none
 lf : 10000 ≤ E.lf
def Ft (s : DS) (o : Nat) (cs : List Int) (r : Value × DS) : Prop := r.1 = .tuple #[] ∧ ∃ bv', Vy r.2 o bv' cs ∧ Ext [o] s r.2 ∧ ∀ k, k ∈ blk bv' → s.next ≤ k
theorem Vy.keep {s s' : DS} {o : Nat} {bv : Value} {bs : List Int} {F : List Nat} (h : Vy s o bv bs) (X : Ext F s s') (h1 : o ∉ F) (h2 : ∀ k, k ∈ blk bv → k ∉ F) : Vy s' o bv bs :=
 ⟨X.keep h.go h1, X.wrs h.wo, h.sl.keep X h2, h.ne⟩
structure N4 (S : DS) (o : Nat) (x : Int) (size : Nat) (n : Nat) (y : St) : Prop where
 ex : ∃ (j : Nat) (w : Value), n = size - j ∧ j ≤ size ∧ y.defers = [] ∧ (y.t.get 0 = some (.pointer (some ⟨o, 0, none⟩)) ∧ y.t.get 1 = some (.int .u64 (zE .u64 x)) ∧ y.t.get 2 = some (.int .i64 (size : Int)) ∧ y.t.get 6 = some w ∧ y.t.get 7 = some (.int .i64 (j : Int))) ∧
  Ext [] S y.s ∧ SlX y.s 1 w (ZZ (leB x j)) ∧ ∀ k, k ∈ blk w → S.next ≤ k
section
variable {E : Env} (hO : KV E) {s : DS} {o : Nat} {bv : Value} {bs cs : List Int} {d : Nat}
include hO
theorem PE (h : Vy s o bv bs) (hG : s.Good) {y : Value} (hy : SlX s 1 y (ZZ cs)) (hlen : bs.length + cs.length ≤ 1048576) :
 W (dcall E (d + 1) (.func (.func 86) #[] #[]) [.pointer (some ⟨o, 0, none⟩), y] s) (Ft s o (bs ++ cs)) := by
 have go := h.go
 have wo := h.wo
 have hol := DS.get_lt' go
 have hyl := hy.lt
 have hbl := h.sl.lt
 obtain ⟨ab, hbv⟩ := h.sl.shape
 obtain ⟨ay, hyv⟩ := hy.shape
 rw [Zp] at hbv hyv
 have w1 : zE .i64 (1048576 - (bs.length : Int)) = 1048576 - (bs.length : Int) := zR (by omega) (by omega)
 have e1 : ¬ 1048576 - (bs.length : Int) < (cs.length : Int) := by omega
 refine Zw fun Q hQ => ?_
 rw [zT hO.iput hO.fput rfl]
 have hv1 := (h.sl.view (Xd _))
 have hv2 := (hy.view (Xd _))
 subst hbv hyv
 have hn : ∀ ob, (s.new ob).get o = some (.cells (.list [.slice ab bs.length bs.length, .bool false, .bool false]) false) := fun ob => (DS.new_get_lt hol).trans go
 simp (maxSteps := 4000000) only [zr, zh, zx, zM, ze, zi, zm, zq, ZH, Zm, zu, zg, zp, ZR, zk, zI, Zd, zP, zS, zQ, Zk, Zl, zt, z7, Zb, zl, zj, zf, zd, zc, Nat.reduceEqDiff, z0, zn, List.getElem?_cons_zero, List.getElem?_cons_succ, z1, zL, Cells.get, getN, Nat.zero_add, Nat.ble_eq, Nat.reduceLeDiff, if_true, if_false, reduceCtorEq, z3, z6, pp, pv, pw, pg, Wl, Yk, repeatZ, ZR, Nat.add_zero, Nat.mul_one, decide_false, d86, go, w1, e1, hn]
 obtain ⟨S1, hS1⟩ : ∃ S1 : DS, S1 = s.new (.cells (.list []) false) := ⟨_, rfl⟩
 rw [← hS1]
 have X1 : Ext [] s S1 := by rw [hS1]; exact Ext.new
 have g1 : S1.get s.next = some (.cells (.list []) false) := by rw [hS1]; exact DS.new_get_self hG
 have hx : SlX S1 1 (.slice (some ⟨s.next, 0, none⟩) 0 0) [] := .inr ⟨s.next, none, rfl, .inl rfl, g1, X1.wrs (hG _ (Nat.le_refl _)).2⟩
 have hG1 := X1.good hG
 refine W.mono (WJ hx (hv1.of fun k hk => X1.get k (hbl k hk) (by simp)) ZI.nil (Xd _) hG1 (by rw [Zp]; simp; omega) (by rw [Zp]; simp; omega)) ?_
 rintro ⟨w2, s2⟩ ⟨x2, X2, b2⟩
 simp only [List.nil_append] at x2 X2 b2
 have XA : Ext [] s s2 := X1.trans X2 (by simp [blk])
 have hb2 : ∀ k, k ∈ blk w2 → s.next ≤ k := fun k hk => by
  rcases b2 k hk with h | h
  · simp [blk] at h; omega
  · have := X1.le; omega
 simp (maxSteps := 4000000) only [zq, zg, zI, zl, zf, zd, zc, Nat.reduceEqDiff, z0, zn, List.getElem?_cons_zero, List.getElem?_cons_succ, z1, Wl]
 refine W.mono (WJ x2 (hv2.of fun k hk => XA.get k (hyl k hk) (by simp)) (Xd _) (Xd _) (XA.good hG) (by rw [Zp, Zp]; omega) (by rw [Zp, Zp]; omega)) ?_
 rintro ⟨w3, s3⟩ ⟨x3, X3, b3⟩
 simp only at x3 X3 b3
 have XB : Ext [] s s3 := XA.trans X3 (fun k hk => .inr (hb2 k hk))
 have hb3 : ∀ k, k ∈ blk w3 → s.next ≤ k := fun k hk => by
  rcases b3 k hk with h | h
  · exact hb2 k h
  · have := XA.le; omega
 have go3 := XB.keep go (by simp)
 have wo3 := XB.wrs wo
 rw [← Km] at x3
 obtain ⟨a3, hw3⟩ := x3.shape
 rw [Zp] at hw3
 subst hw3
 simp (maxSteps := 4000000) only [zi, zm, zq, zg, zp, zY, zk, zS, zQ, Zz, zt, ZO, zl, zf, zy, zd, zc, Nat.reduceEqDiff, z0, z1, zw, zG, Nat.zero_add, Nat.reduceAdd, Zh, Zy, List.length_cons, List.length_nil, allOne, zJ, Bool.and_self, Bool.and_true, Nat.beq_eq, Nat.ble_eq, Nat.reduceLeDiff, if_true, DS.wrC, Cells.size, Cells.fillFrom, Cells.set, Zj, List.length_append, Nat.add_zero, go3, wo3]
 have XU : ∀ ob, Ext [o] s3 (s3.upd o ob) := fun ob => Ext.upd (.inl (by simp))
 refine hQ _ ⟨rfl, _, ⟨?_, ?_, ?_, fun hk => by have := hb3 o hk; omega⟩, ?_, hb3⟩
 · rw [DS.upd_get_self, go3]; simp [List.length_append]
 · rw [DS.upd_wr]; exact wo3
 · exact x3.keep (XU _) fun k hk => by have := hb3 k hk; simp; omega
 · exact (XB.weaken (by simp)).trans' (XU _)
theorem C8 (h : Vy s o bv bs) (hG : s.Good) (x : Int) {size : Nat} (hs : size ≤ 8) (hlen : bs.length + size ≤ 1048576) :
 W (dcall E (d + 2) (.func (.func 69) #[] #[]) [.pointer (some ⟨o, 0, none⟩), .int .u64 (zE .u64 x), .int .i64 (size : Int)] s) (Ft s o (bs ++ leB x size)) := by
 have hlf := hO.lf
 have hol := DS.get_lt' h.go
 have hbl := h.sl.lt
 refine Zw fun Q hQ => ?_
 rw [zT hO.ilow hO.flow rfl]
 simp (maxSteps := 4000000) only [zr, zh, zN, ze, zi, zm, zq, zg, zI, zj, zf, pp, pv, d69]
 refine ZP (N4 s o x size) size (by omega) ⟨0, .slice none 0 0, rfl, Nat.zero_le _, rfl, ?_, .refl, .inl ⟨rfl, rfl⟩, by simp [blk]⟩ ?_
 · simp (maxSteps := 4000000) only [zd, zc, Nat.reduceEqDiff, z0, zn, List.getElem?_cons_zero, List.getElem?_cons_succ, Bool.true_and, true_and, reduceCtorEq]
   rfl
 rintro n ⟨t, s2, ds⟩ hn ⟨j, w, rfl, hj, hds, ⟨g0, g1, g2, g6, g7⟩, X2, hw, hwb⟩
 simp only at hds g0 g1 g2 g6 g7 X2 hw
 subst hds
 have hG2 := X2.good hG
 by_cases c1 : j < size
 · have e1 : (j : Int) < (size : Int) := by omega
   have w1 : zE .i64 ((j : Int) + 1) = ((j + 1 : Nat) : Int) := by rw [zR (by omega) (by omega)]; omega
   have w2 : zE .i64 (8 * (j : Int)) = ((8 * j : Nat) : Int) := by rw [zR (by omega) (by omega)]; omega
   have hsh : Ym .shr .u64 (zE .u64 x) ((8 * j : Nat) : Int) = some (.int .u64 ((zE .u64 x).fdiv (Int.ofNat (2 ^ (8 * j))))) := by
    unfold Ym
    rw [if_neg (by omega)]
    have e2 : Nat.ble (bitsOf .u64) ((8 * j : Nat) : Int).toNat = false := by rw [Yb]; simp [bitsOf]; omega
    simp only [e2, z3, if_false]
    rfl
   simp (maxSteps := 4000000) only [zr, zh, zx, zN, zM, ze, zi, zm, zq, zC, zg, zp, ZR, zk, zI, zP, YB, zt, z7, Zb, zl, zj, zf, zd, zc, Nat.reduceEqDiff, z0, z1, Nat.zero_add, zZ, List.length_cons, List.length_nil, Bool.and_self, Bool.and_eq_true, Nat.beq_eq, Nat.ble_eq, Nat.reduceLeDiff, Nat.le_refl, and_self, if_true, z6, List.take_zero, List.drop_succ_cons, List.nil_append, List.drop_nil, List.append_nil, Wl, Yk, repeatZ, ZR, Nat.mul_one, decide_true, g0, g1, g2, g6, g7, e1, w1, w2, hsh]
   obtain ⟨S3, hS3⟩ : ∃ S3 : DS, S3 = s2.new (.cells (.list [.int .u8 (leI x j)]) false) := ⟨_, rfl⟩
   rw [show zE .u8 ((zE .u64 x).fdiv (Int.ofNat (2 ^ (8 * j)))) = leI x j from rfl, ← hS3]
   have X3 : Ext [] s2 S3 := by rw [hS3]; exact Ext.new
   have g3 : S3.get s2.next = some (.cells (.list [.int .u8 (leI x j)]) false) := by rw [hS3]; exact DS.new_get_self hG2
   have hv : SlV S3 1 (.slice (some ⟨s2.next, 0, none⟩) 1 1) (ZZ [leI x j]) := .inr ⟨s2.next, 0, none, 1, rfl, by unfold DS.read; rw [g3]; rfl⟩
   refine W.mono (WJ (hw.keep X3 (by simp)) hv (Xd _) (Xd _) (X3.good hG2) (by rw [Zp, Zp, Z3]; simp; omega) (by rw [Zp, Zp, Z3]; simp; omega)) ?_
   rintro ⟨w4, s4⟩ ⟨x4, X4, b4⟩
   simp only at x4 X4 b4
   rw [← Km, ← KE] at x4
   have hb4 : ∀ k, k ∈ blk w4 → s.next ≤ k := fun k hk => by
    rcases b4 k hk with h | h
    · exact hwb k h
    · have := X3.le; have := X2.le; omega
   simp (maxSteps := 4000000) only [zh, ze, zK, zi, zW, zm, zq, zg, zp, zk, zI, zP, z7, Zb, zl, zj, zf, zd, zc, Nat.reduceEqDiff, z0, z1, if_true, g0, g1, g2, g6, g7, w1]
   exact ⟨size - (j + 1), by omega, ⟨j + 1, w4, rfl, by omega, rfl, by simp (maxSteps := 4000000) only [zd, zc, Nat.reduceEqDiff, z0, Bool.and_self, and_self, reduceCtorEq, g0, g1, g2], (X2.trans' X3).trans X4 (fun k hk => .inr (hwb k hk)), x4, hb4⟩⟩
 · obtain rfl : j = size := by omega
   have e1 : ¬ (j : Int) < (j : Int) := by omega
   simp (maxSteps := 4000000) only [zr, zh, zx, ZA, ze, Ze, Zg, zi, Zf, zm, zq, zu, zg, zp, zk, zI, zP, zF, z7, Zb, zl, zB, zf, zd, zc, Nat.reduceEqDiff, z0, z1, z4, z5, if_true, reduceCtorEq, decide_false, g0, g1, g2, g6, g7, e1]
   refine W.mono (PE hO (h.keep X2 (by simp) (by simp)) hG2 hw (by rw [Z3]; exact hlen)) ?_
   rintro ⟨v5, s5⟩ ⟨hv5, bv5, h5, X5, b5⟩
   simp only at hv5 h5 X5
   subst hv5
   simp (maxSteps := 4000000) only [zi, zm, zg, zk, ZO, zf, zw, zG]
   exact hQ _ ⟨rfl, bv5, h5, (X2.weaken (by simp)).trans' X5, fun k hk => by have := b5 k hk; have := X2.le; omega⟩
theorem G9 (h : Vy s o bv bs) (hG : s.Good) {x most : Int} (hx : 0 ≤ x) (hm : x ≤ most) {size : Nat} (hs : size ≤ 8) (hlen : bs.length + size ≤ 1048576) :
 W (dcall E (d + 3) (.func (.func 68) #[] #[]) [.pointer (some ⟨o, 0, none⟩), .int .i64 x, .int .i64 (size : Int), .int .i64 most] s) (Ft s o (bs ++ leB x size)) := by
 have go := h.go
 have hol := DS.get_lt' go
 refine Zw fun Q hQ => ?_
 rw [zT hO.icount hO.fcount rfl]
 have e1 : ¬ x < 0 := by omega
 have e2 : ¬ most < x := by omega
 simp (maxSteps := 4000000) only [zr, zh, zx, zM, ze, zi, zm, zq, ZH, Zm, zu, zg, zp, zk, zI, Zd, zP, YB, zS, zQ, Zl, zF, zt, z7, Zb, zl, zj, zB, zf, zd, zc, Nat.reduceEqDiff, z0, zn, List.getElem?_cons_zero, List.getElem?_cons_succ, z1, z4, z5, zL, Cells.get, getN, Nat.zero_add, if_true, if_false, reduceCtorEq, z3, pp, pv, pw, pg, decide_false, d68, go, e1, e2]
 refine W.mono (C8 hO h hG x hs hlen) ?_
 rintro ⟨v5, s5⟩ ⟨hv5, h5⟩
 simp only at hv5 h5
 subst hv5
 simp (maxSteps := 4000000) only [zi, zm, zg, zk, ZO, zf, zw, zG]
 exact hQ _ ⟨rfl, h5⟩
theorem TM (h : Vy s o bv bs) (hG : s.Good) {x : Int} (hx : 0 ≤ x) (hm : x ≤ 65535) (hlen : bs.length + 2 ≤ 1048576) :
 W (dcall E (d + 4) (.func (.func 48) #[] #[]) [.pointer (some ⟨o, 0, none⟩), .int .i64 x] s) (Ft s o (bs ++ leB x 2)) := by
 refine Zw fun Q hQ => ?_
 rw [zT hO.ishort hO.fshort rfl]
 simp (maxSteps := 4000000) only [zh, zq, zg, zI, zF, zl, zj, zB, zf, zd, zc, Nat.reduceEqDiff, z0, zn, List.getElem?_cons_zero, List.getElem?_cons_succ, z1, z4, z5, pp, pv, d48]
 refine W.mono (G9 hO h hG hx hm (size := 2) (by omega) hlen) ?_
 rintro ⟨v5, s5⟩ ⟨hv5, h5⟩
 simp only at hv5 h5
 subst hv5
 simp (maxSteps := 4000000) only [zi, zm, zg, zk, ZO, zf, zw, zG]
 exact hQ _ ⟨rfl, h5⟩
theorem SW (h : Vy s o bv bs) (hG : s.Good) {x : Int} (hx : 0 ≤ x) (hm : x ≤ 4096) (hlen : bs.length + 2 ≤ 1048576) :
 W (dcall E (d + 4) (.func (.func 49) #[] #[]) [.pointer (some ⟨o, 0, none⟩), .int .i64 x] s) (Ft s o (bs ++ leB x 2)) := by
 refine Zw fun Q hQ => ?_
 rw [zT hO.imany hO.fmany rfl]
 simp (maxSteps := 4000000) only [zh, zq, zg, zI, zF, zl, zj, zB, zf, zd, zc, Nat.reduceEqDiff, z0, zn, List.getElem?_cons_zero, List.getElem?_cons_succ, z1, z4, z5, pp, pv, d49]
 refine W.mono (G9 hO h hG hx hm (size := 2) (by omega) hlen) ?_
 rintro ⟨v5, s5⟩ ⟨hv5, h5⟩
 simp only at hv5 h5
 subst hv5
 simp (maxSteps := 4000000) only [zi, zm, zg, zk, ZO, zf, zw, zG]
 exact hQ _ ⟨rfl, h5⟩
theorem Ta (h : Vy s o bv bs) (hG : s.Good) (x : Int) (hlen : bs.length + 8 ≤ 1048576) :
 W (dcall E (d + 3) (.func (.func 50) #[] #[]) [.pointer (some ⟨o, 0, none⟩), .int .i64 x] s) (Ft s o (bs ++ leB x 8)) := by
 refine Zw fun Q hQ => ?_
 rw [zT hO.iint hO.fint rfl]
 simp (maxSteps := 4000000) only [zh, zq, zg, zp, zk, zI, YB, zF, zt, zl, zj, zB, zf, zd, zc, Nat.reduceEqDiff, z0, zn, List.getElem?_cons_zero, List.getElem?_cons_succ, z1, z4, z5, pp, pv, d50]
 refine W.mono (C8 hO h hG x (size := 8) (by omega) hlen) ?_
 rintro ⟨v5, s5⟩ ⟨hv5, h5⟩
 simp only at hv5 h5
 subst hv5
 simp (maxSteps := 4000000) only [zi, zm, zg, zk, ZO, zf, zw, zG]
 exact hQ _ ⟨rfl, h5⟩
end
def GO (room : Int) (L : List Ent) (i : Nat) : List Int := leB room 2 ++ (leB (L.length : Int) 2 ++ Qh Jw (L.take i))
structure M8 (S0 : DS) (o q : Nat) (L : List Ent) (room : Int) (n : Nat) (y : St) : Prop where
 ex : ∃ (i : Nat) (bv : Value), n = L.length - i ∧ i ≤ L.length ∧ y.defers = [] ∧ (y.t.get 0 = some (.pointer (some ⟨q, 0, none⟩)) ∧ y.t.get 3 = some (.pointer (some ⟨o, 0, none⟩)) ∧ y.t.get 4 = some (.int .i64 (i : Int))) ∧
  Vy y.s o bv (GO room L i) ∧ (∀ k, k ∈ blk bv → S0.next ≤ k) ∧ Ext [o] S0 y.s
section
variable {E : Env} (hO : KV E) {s : DS} {d : Nat} {q : Nat} {v : Value} {L : List Ent} {room : Int}
include hO
theorem Dl (c : Jh s q v L room) (hG : s.Good) (hroom : 0 ≤ room ∧ room ≤ 4096) (hl : L.length ≤ 4096) :
 W (dcall E (d + 5) (.func (.func 31) #[] #[]) [.pointer (some ⟨q, 0, none⟩)] s) fun r => SlX r.2 1 r.1 (ZZ (XJ room L)) ∧ Ext [] s r.2 ∧ ∀ k, k ∈ blk r.1 → s.next ≤ k := by
 have hlf := hO.lf
 have gq := c.gq
 have hql := DS.get_lt' gq
 have hvl := c.sl.lt
 have hel := ZY L
 obtain ⟨wa, hws⟩ := c.sl.shape
 rw [hel] at hws
 have hcat : ∀ M : List Ent, (Qh Jw M).length = M.length * 16 := fun M => by
  induction M with
  | nil => rfl
  | cons a M ih => unfold Qh at ih ⊢; rw [List.flatMap_cons, List.length_append, ih]; simp [Jw, Z3]; omega
 have hpl : ∀ i, (GO room L i).length ≤ 4 + i * 16 := fun i => by
  unfold GO
  rw [List.length_append, List.length_append, Z3, Z3, hcat, List.length_take]
  omega
 refine Zw fun Q hQ => ?_
 rw [zT hO.ipack hO.fpack rfl]
 have hn : ∀ ob, (s.new ob).get q = some (.cells (.list [v, .int .i64 room]) false) := fun ob => (DS.new_get_lt hql).trans gq
 simp (maxSteps := 4000000) only [zr, zh, ze, zi, zm, zq, zg, zp, YA, zk, zI, zS, Yf, zQ, Zl, Xe, zF, zt, zl, zj, zB, zf, zd, zc, Nat.reduceEqDiff, z0, zn, List.getElem?_cons_zero, z1, z4, z5, zL, Cells.get, getN, Nat.zero_add, zO, reduceCtorEq, z6, pp, pv, d31, hn]
 obtain ⟨S1, hS1⟩ : ∃ S1 : DS, S1 = s.new (.cells (.list [.slice none 0 0, .bool false, .bool false]) false) := ⟨_, rfl⟩
 rw [← hS1]
 have X1 : Ext [] s S1 := by rw [hS1]; exact Ext.new
 have hG1 := X1.good hG
 have h1 : Vy S1 s.next (.slice none 0 0) [] := ⟨by rw [hS1]; exact DS.new_get_self hG, X1.wrs (hG _ (Nat.le_refl _)).2, .inl ⟨rfl, rfl⟩, by simp [blk]⟩
 clear hS1
 refine W.mono (TM hO h1 hG1 hroom.1 (by omega) (by simp)) ?_
 rintro ⟨v2, s2⟩ ⟨hv2, b2, h2, X2, n2⟩
 simp only [List.nil_append] at hv2 h2 X2
 subst hv2
 have XA : Ext [] s s2 := X1.trans X2 (by simp)
 have hG2 := XA.good hG
 have gq2 := XA.keep gq (by simp)
 rw [hws] at gq2
 simp (maxSteps := 4000000) only [zr, zh, ze, zi, zm, zq, zg, zp, zk, zI, zS, zQ, Zk, Zl, zF, zt, zl, zB, zf, zd, zc, Nat.reduceEqDiff, z0, zn, List.getElem?_cons_zero, z1, z4, z5, zL, Cells.get, getN, reduceCtorEq, Nat.add_zero, gq2]
 refine W.mono (SW hO h2 hG2 (x := (L.length : Int)) (by omega) (by omega) (by rw [Z3]; omega)) ?_
 rintro ⟨v3, s3⟩ ⟨hv3, b3, h3, X3, n3⟩
 simp only at hv3 h3 X3
 subst hv3
 have XB : Ext [] s s3 := XA.trans X3 (by simp)
 have hG3 := XB.good hG
 have c3 := c.keep XB (by simp) (by simp)
 have hnb : ∀ k, k ∈ blk b3 → s.next ≤ k := fun k hk => by have := n3 k hk; have := XA.le; omega
 simp (maxSteps := 4000000) only [zr, zh, zN, ze, zi, zm, zq, zg, zI, zj, zf]
 refine ZP (M8 s s.next q L room) L.length (by omega) ⟨0, b3, rfl, Nat.zero_le _, rfl, ?_, ?_, hnb, XB.weaken (by simp)⟩ ?_
 · simp (maxSteps := 4000000) only [zd, zc, Nat.reduceEqDiff, z0, zn, List.getElem?_cons_zero, Bool.true_and, true_and, reduceCtorEq]
   rfl
 · have : GO room L 0 = leB room 2 ++ leB (L.length : Int) 2 := by unfold GO Qh; simp
   rw [this]
   exact h3
 rintro n ⟨t, s4, ds⟩ hn4 ⟨i, bv, rfl, hi, hds, ⟨g0, g3, g4⟩, h4, n4, X4⟩
 simp only at hds g0 g3 g4 h4 X4
 subst hds
 have hG4 := X4.good hG
 have c4 := c.keep X4 (by simp; omega) (fun k hk => by have := hvl k hk; simp; omega)
 have gq4 := c4.gq
 rw [hws] at gq4
 by_cases c1 : i < L.length
 · have e1 : (i : Int) < (L.length : Int) := by omega
   have w1 : zE .i64 ((i : Int) + 1) = ((i + 1 : Nat) : Int) := by rw [zR (by omega) (by omega)]; omega
   have hx : L[i]? = some L[i] := List.getElem?_eq_getElem c1
   generalize L[i] = x at hx
   obtain ⟨b, sp, hvv, hsp, hb, hwb⟩ := c4.sl.at (fun e => by rw [e] at hel; simp at hel; omega)
   have hwb2 := hvv
   rw [hel, hws] at hvv
   injection hvv with hv1 _ _
   subst hv1
   have hg0 := WV hx
   have hg1 := Qt hx
   have hli := hpl i
   simp (maxSteps := 4000000) only [zr, zh, zx, zN, zM, ze, zi, zm, zq, zC, zg, zp, zk, zI, zP, zS, zQ, Yy, Zk, Zl, zF, zt, z7, Zb, zl, zB, zf, zd, zc, Nat.reduceEqDiff, z0, z1, z4, z5, zL, Cells.get, getN, Nat.zero_add, Nat.blt_eq, if_true, reduceCtorEq, Nat.add_zero, zD, decide_true, g0, g3, g4, e1, gq4, c1, hb, hg0]
   refine W.mono (Ta hO h4 hG4 x.1 (by omega)) ?_
   rintro ⟨v5, s5⟩ ⟨hv5, b5, h5, X5, n5⟩
   simp only at hv5 h5 X5
   subst hv5
   have gq5 := X5.keep gq4 (by simp; omega)
   have hbl : b < s.next := hvl b (by rw [hws]; simp [blk])
   have hb5 := X5.keep hb (by simp; omega)
   simp (maxSteps := 4000000) only [zh, ze, zi, zm, zq, zg, zp, zk, zI, zS, zQ, Yy, Zl, zF, zt, zl, zB, zf, zd, zc, Nat.reduceEqDiff, z0, z1, z4, z5, zL, Cells.get, getN, Nat.zero_add, Nat.blt_eq, if_true, reduceCtorEq, Nat.add_zero, zD, g0, g3, g4, gq5, c1, hb5, hg1]
   refine W.mono (Ta hO h5 (X5.good hG4) x.2 (by rw [List.length_append, Z3]; omega)) ?_
   rintro ⟨v6, s6⟩ ⟨hv6, b6, h6, X6, n6⟩
   simp only at hv6 h6 X6
   subst hv6
   simp (maxSteps := 4000000) only [zh, ze, zK, zi, zW, zm, zq, zg, zp, zk, zI, zP, z7, Zb, zl, zj, zf, zd, zc, Nat.reduceEqDiff, z0, z1, if_true, g0, g3, g4, w1]
   refine ⟨L.length - (i + 1), by omega, ⟨i + 1, b6, rfl, by omega, rfl, by simp (maxSteps := 4000000) only [zd, zc, Nat.reduceEqDiff, z0, Bool.and_self, and_self, reduceCtorEq, g0, g3], ?_, fun k hk => ?_, (X4.trans' X5).trans' X6⟩⟩
   · have : GO room L (i + 1) = (GO room L i ++ leB x.1 8) ++ leB x.2 8 := by
      unfold GO Qh
      rw [List.take_add_one, hx]
      simp [Jw, List.flatMap_append]
     rw [this]
     exact h6
   · have := n6 k hk; have := X5.le; have := X4.le; omega
 · obtain rfl : i = L.length := by omega
   have e1 : ¬ (L.length : Int) < (L.length : Int) := by omega
   have gc := h4.go
   simp (maxSteps := 4000000) only [zr, zh, zx, zV, ZA, ze, Ze, Zg, zi, Zf, zm, zq, zu, zg, zp, zk, zI, zP, zS, zQ, Zk, Zl, zt, z7, Zb, zH, zl, zf, zd, zc, Nat.reduceEqDiff, z0, z1, zw, zG, zL, Cells.get, getN, if_true, reduceCtorEq, Nat.add_zero, decide_false, g0, g3, g4, e1, gq4, gc]
   have hfin : GO room L L.length = XJ room L := by
    unfold GO
    rw [List.take_length]
    rfl
   have hsl := h4.sl
   rw [hfin] at hsl
   exact hQ _ ⟨hsl, (Ext.refl (F := [])).trans X4 (by simp), n4⟩
end
end Go.Dx.StA
set_option maxHeartbeats 8000000
namespace Go.Dx.StA
open Go Go.Dx Go.Proofs.Ytnmajohhfcgddaa
theorem Ws : d97 = Ku 102 := rfl
theorem W8 : d102 = VD := rfl
structure Ni (E : Env) : Prop where
 ffirst : E.fn 84 = some d84
 ifirst : E.intr 84 = none
 fords : E.fn 96 = some d96
 iords : E.intr 96 = none
 fstir : E.fn 97 = some d97
 istir : E.intr 97 = none
 frot : E.fn 102 = some d102
 irot : E.intr 102 = none
 fwork : E.fn 85 = some d85
 iwork : E.intr 85 = none
 fnew : E.fn 65 = some d65
 inew : E.intr 65 = none
 fadd : E.fn 66 = some d66
 iadd : E.intr 66 = none
 fdig : E.fn 67 = some d67
 idig : E.intr 67 = none
 fsum : E.fn 44 = some d44
 isum : E.intr 44 = none
 lf : 10000 ≤ E.lf
structure MI (S : DS) (M p q o : Nat) (lq : List Value) (t : Int) (last : Bool) (n : Nat) (y : St) : Prop where
 ex : ∃ j : Nat, n = 16 - j ∧ j ≤ 16 ∧ y.defers = [] ∧ (y.t.get 0 = some (.pointer (some ⟨p, 0, none⟩)) ∧ y.t.get 1 = some (.pointer (some ⟨q, o, none⟩)) ∧ y.t.get 2 = some (.int .u64 t) ∧ y.t.get 3 = some (.bool last) ∧ y.t.get 8 = some (.pointer (some ⟨M, 0, none⟩)) ∧ y.t.get 9 = some (.pointer (some ⟨M + 1, 0, none⟩)) ∧ y.t.get 16 = some (.int .i64 (j : Int))) ∧
  Ext [M] S y.s ∧ y.s.get M = some (.cells (.list (mF lq o j)) false)
structure RI (S : DS) (M K p : Nat) (lp lq : List Value) (o : Nat) (t : Int) (last : Bool) (n : Nat) (y : St) : Prop where
 ex : ∃ j : Nat, n = 10 - j ∧ j ≤ 10 ∧ y.defers = [] ∧ (y.t.get 0 = some (.pointer (some ⟨p, 0, none⟩)) ∧ y.t.get 8 = some (.pointer (some ⟨M, 0, none⟩)) ∧ y.t.get 9 = some (.pointer (some ⟨M + 1, 0, none⟩)) ∧ y.t.get 79 = some (.pointer (some ⟨K, 0, none⟩)) ∧ y.t.get 81 = some (.int .i64 (j : Int))) ∧
  Ext [M + 1] S y.s ∧ y.s.get (M + 1) = some (.cells (.list (YV (mF lq o 16) (v0F lp t last) j)) false)
structure XI (S : DS) (M p : Nat) (lp vv : List Value) (n : Nat) (y : St) : Prop where
 ex : ∃ j : Nat, n = 8 - j ∧ j ≤ 8 ∧ y.defers = [] ∧ (y.t.get 0 = some (.pointer (some ⟨p, 0, none⟩)) ∧ y.t.get 9 = some (.pointer (some ⟨M + 1, 0, none⟩)) ∧ y.t.get 159 = some (.int .i64 (j : Int))) ∧
  Ext [p] S y.s ∧ y.s.get p = some (.cells (.list (Jx lp vv j)) false)
structure AI (S : DS) (p : Nat) (Fin : List Value) (m : Nat) (y : St) : Prop where
 ex : ∃ (f : Nat) (H : List Value) (n : Nat) (r : List Int) (v : Value), m = r.length ∧ r.length ≤ f ∧ Jt f H r = Fin ∧ HOk H n ∧ y.defers = [] ∧ (y.t.get 0 = some (.pointer (some ⟨p, 0, none⟩)) ∧ y.t.get 1 = some v) ∧
  SlR y.s v r ∧ p ∉ blk v ∧ Ext [p] S y.s ∧ y.s.get p = some (.cells (.list H) false)
structure OI (S : DS) (O D : Nat) (w : List Value) (n : Nat) (y : St) : Prop where
 ex : ∃ j : Nat, n = 8 - j ∧ j ≤ 8 ∧ y.defers = [] ∧ (y.t.get 2 = some (.pointer (some ⟨D, 0, none⟩)) ∧ y.t.get 5 = some (.pointer (some ⟨O, 0, none⟩)) ∧ y.t.get 38 = some (.agg ⟨w⟩) ∧ y.t.get 39 = some (.int .i64 (j : Int))) ∧
  Ext [O] S y.s ∧ y.s.get O = some (.cells (.list (Q7 w j)) false)
structure SI (S : DS) (p D b : Nat) (ps : List (Value × List Int)) (m : Nat) (y : St) : Prop where
 ex : ∃ j : Nat, m = ps.length - j ∧ j ≤ ps.length ∧ y.defers = [] ∧ (y.t.get 0 = some (.slice (some ⟨b, 0, none⟩) ps.length ps.length) ∧ y.t.get 2 = some (.pointer (some ⟨D, 0, none⟩)) ∧ y.t.get 3 = some (.pointer (some ⟨p, 0, none⟩)) ∧ y.t.get 7 = some (.slice (some ⟨b, 0, none⟩) ps.length ps.length) ∧ y.t.get 8 = some (.int .i64 (ps.length : Int)) ∧ y.t.get 9 = some (.int .i64 (j : Int))) ∧
  Ext [p] S y.s ∧ y.s.get p = some (.cells (.list (Cb ((ps.map Prod.snd).take j))) false) ∧ ∃ n, HOk (Cb ((ps.map Prod.snd).take j)) n
section
variable {E : Env} (hB : Ni E) {s : DS} {d : Nat}
include hB
theorem DK (hG : s.Good) : W (dcall E (d + 1) (.func (.func 84) #[] #[]) [] s) fun r => r.1 = .agg ⟨ivL⟩ ∧ Ext [] s r.2 := by
 refine Zw fun Q hQ => ?_
 rw [zT hB.ifirst hB.ffirst rfl]
 simp (maxSteps := 4000000) (maxDischargeDepth := 8) only [zr, zh, zV, ze, zi, zm, zq, zg, zY, YA, zk, Yf, Zz, Zi, Zo, zH, zl, zj, zf, zy, zd, zc, z0, z1, zw, zG, Cells.get, getN, Nat.zero_add, Nat.reduceAdd, Zh, zZ, zO, List.length_cons, List.length_nil, allOne, zJ, Bool.and_self, Bool.and_true, Bool.and_eq_true, Nat.beq_eq, Nat.ble_eq, Nat.reduceLeDiff, Nat.le_refl, and_self, if_true, DS.wrC, Cells.size, Cells.fillFrom, Cells.set, Zj, z6, List.take_zero, List.take_succ_cons, List.drop_succ_cons, List.drop_zero, List.nil_append, List.cons_append, List.drop_nil, List.append_nil, pp, DS.upd_get_self, Option.map_some, wrN, DS.read, Cells.take, zo, zA, ZF, zX, Nat.lt_add_one, d84, hG]
 refine hQ _ ⟨rfl, ?_⟩
 exact (Ext.new (F := [])).trans (Ext.upd (F := [s.next]) (.inl (by simp))) (by simp)
theorem TN (hG : s.Good) : W (dcall E (d + 1) (.func (.func 96) #[] #[]) [] s) fun r => r.1 = .pointer (some ⟨s.next, 0, none⟩) ∧ Ext [] s r.2 ∧ r.2.get s.next = some (.cells (.list Mm) false) := by
 refine Zw fun Q hQ => ?_
 rw [zT hB.iords hB.fords rfl]
 simp (maxSteps := 4000000) (maxDischargeDepth := 8) only [zr, zh, zV, ze, zi, zm, zq, zg, YA, zk, zI, Yf, Xe, zH, zl, zj, zf, zd, zc, z0, z1, zw, zG, Nat.zero_add, Nat.reduceAdd, zZ, zO, List.length_cons, List.length_nil, Bool.and_self, Bool.and_eq_true, Nat.beq_eq, Nat.ble_eq, Nat.reduceLeDiff, Nat.le_refl, and_self, if_true, z6, List.take_zero, List.take_succ_cons, List.drop_succ_cons, List.drop_zero, List.nil_append, List.cons_append, List.drop_nil, List.append_nil, pp, pv, zX, Nat.reduceLT, Nat.lt_add_one, d96, hG]
 refine hQ _ ⟨rfl, Ext.new, ?_⟩
 rw [DS.new_get_self hG]
 rfl
theorem CV {p q o : Nat} {lp lq : List Value} {t : Int} {last : Bool} (hG : s.Good) (gp : s.get p = some (.cells (.list lp) false)) (wp : s.wr p = true) (gq : s.get q = some (.cells (.list lq) false))
 (hp : UA .u32 0 8 lp) (hq : UA .u8 o 64 lq) :
 W (dcall E (d + 3) (.func (.func 85) #[] #[]) [.pointer (some ⟨p, 0, none⟩), .pointer (some ⟨q, o, none⟩), .int .u64 t, .bool last] s)
  fun r => r.1 = .tuple #[] ∧ Ext [p] s r.2 ∧ r.2.get p = some (.cells (.list (Xo lp lq o t last)) false) := by
 have hlf := hB.lf
 have hpl := DS.get_lt' gp
 have hql := DS.get_lt' gq
 refine Zw fun Q hQ => ?_
 rw [zT hB.iwork hB.fwork rfl]
 simp (maxSteps := 4000000) (maxDischargeDepth := 8) only [zr, zh, zN, ze, zi, zm, zq, zg, zI, Zi, zj, zf, pp, pv, zU, d85, hG]
 obtain ⟨S, hS⟩ : ∃ S : DS, S = (s.new (.cells (.list (Za .u32 16)) false)).new (.cells (.list (Za .u32 16)) false) := ⟨_, rfl⟩
 simp only [show [Value.int .u32 0, .int .u32 0, .int .u32 0, .int .u32 0, .int .u32 0, .int .u32 0, .int .u32 0, .int .u32 0, .int .u32 0, .int .u32 0, .int .u32 0, .int .u32 0, .int .u32 0, .int .u32 0, .int .u32 0, .int .u32 0] = Za .u32 16 from rfl, ← hS]
 have XS : Ext [] s S := by rw [hS]; exact Ext.new.trans' Ext.new
 have hGS := XS.good hG
 have nS : S.next = s.next + 2 := by rw [hS]; rfl
 have gM : S.get s.next = some (.cells (.list (Za .u32 16)) false) := by rw [hS]; simp (maxSteps := 4000000) (maxDischargeDepth := 8) only [zU, zo, zz, zA, Nat.lt_add_one, hG]
 have gV : S.get (s.next + 1) = some (.cells (.list (Za .u32 16)) false) := by rw [hS]; simp (maxSteps := 4000000) (maxDischargeDepth := 8) only [zU, zo, zA, hG]
 have wM : S.wr s.next = true := XS.wrs (hG _ (Nat.le_refl _)).2
 have wV : S.wr (s.next + 1) = true := XS.wrs (hG _ (Nat.le_succ _)).2
 obtain ⟨M, hM⟩ : ∃ M, M = s.next := ⟨_, rfl⟩
 simp only [← hM] at nS gM gV wM wV hpl hql ⊢
 refine ZP (MI S M p q o lq t last) 16 (by omega) ⟨0, rfl, by omega, rfl, ?_, .refl, gM⟩ ?_
 · simp (maxSteps := 4000000) only [zd, zc, Nat.reduceEqDiff, z0, zn, List.getElem?_cons_zero, List.getElem?_cons_succ, Bool.true_and, true_and, reduceCtorEq]
   rfl
 · rintro n ⟨tt, s2, ds⟩ hn ⟨j, rfl, hj, hds, ⟨g0, g1, g2, g3, g8, g9, g16⟩, X2, gN⟩
   simp only at hds g0 g1 g2 g3 g8 g9 g16 X2 gN
   subst hds
   have wN := X2.wrs wM
   have gq2 := X2.keep (XS.keep gq (by simp)) (by simp; omega)
   by_cases c1 : j < 16
   · have e1 : (j : Int) < 16 := by omega
     have w1 : zE .i64 ((j : Int) + 1) = ((j + 1 : Nat) : Int) := by rw [zR (by omega) (by omega)]; omega
     have w4 : zE .i64 (4 * (j : Int)) = ((4 * j : Nat) : Int) := by rw [zR (by omega) (by omega)]; omega
     have w5 : zE .i64 (((4 * j : Nat) : Int) + 4) = ((4 * j + 4 : Nat) : Int) := by rw [zR (by omega) (by omega)]; omega
     have hbd : Z6 64 64 (some (.int .i64 ((4 * j : Nat) : Int))) (some (.int .i64 ((4 * j + 4 : Nat) : Int))) none = some (4 * j, 4 * j + 4, 64) := by
      unfold Z6
      simp only [zD, Nat.ble_eq.mpr (show 4 * j + 4 ≤ 64 by omega), Nat.ble_eq.mpr (show 4 * j ≤ 4 * j + 4 by omega), if_true]
     have c15 : j ≤ 15 := by omega
     have l4 : 4 * j + 4 - 4 * j = 4 := by omega
     have b0 := hq.at (i := 4 * j) (by omega)
     have b1 := hq.at (i := 4 * j + 1) (by omega)
     have b2 := hq.at (i := 4 * j + 2) (by omega)
     have b3 := hq.at (i := 4 * j + 3) (by omega)
     simp only [← Nat.add_assoc] at b0 b1 b2 b3
     simp (maxSteps := 4000000) only [zr, zh, zx, zN, zM, ze, zK, zi, zW, zm, zq, zC, zg, zp, zY, zk, zI, zP, YB, zS, Yy, Zl, Zz, zt, z7, Zb, zl, zj, zf, zy, zd, zc, Nat.reduceEqDiff, z0, z1, zL, Cells.get, Nat.zero_add, Zh, zZ, List.length_cons, List.length_nil, allOne, zJ, Bool.and_self, Bool.and_true, Nat.beq_eq, Nat.ble_eq, Nat.blt_eq, Nat.reduceLeDiff, if_true, DS.wrC, Cells.size, Cells.fillFrom, Cells.set, Option.map_some, Option.map_none, Nat.add_zero, zD, Nat.mul_one, decide_true, YN, Vv, g0, g1, g2, g3, g8, g9, g16, e1, w1, w4, w5, hbd, Yh, l4, b0, b1, b2, b3, gN, gq2, wN, P9, MD, Mz, My, Nat.reduceLT, c1, (SZ lq o j).1, Nm, Sz, Sy, c15]
     refine ⟨16 - (j + 1), by omega, ⟨j + 1, rfl, by omega, rfl, by simp (maxSteps := 4000000) only [zd, zc, Nat.reduceEqDiff, z0, Bool.and_self, and_self, reduceCtorEq, g0, g1, g2, g3, g8, g9], X2.trans' (Ext.upd (.inl (by simp))), ?_⟩⟩
     simp (maxSteps := 4000000) only [DS.upd_get_self, Option.map_some, gN]
     rfl
   · obtain rfl : j = 16 := by omega
     have e1 : ¬ ((16 : Nat) : Int) < 16 := by omega
     simp (maxSteps := 4000000) only [zr, zh, zx, ZA, ze, Ze, Zg, zi, Zf, zm, zq, zu, zg, zp, zk, zP, zF, z7, Zb, zl, zj, zB, zf, zd, z1, z5, if_true, decide_false, g0, g1, g2, g3, g8, g9, g16, e1]
     have XA := XS.trans X2 (by simp [hM])
     have hG2 := X2.good hGS
     have mM := (SZ lq o 16).1
     refine W.mono (DK hB hG2) ?_
     rintro ⟨v3, s3⟩ ⟨h3, X3⟩
     simp only at h3 X3
     subst h3
     have hG3 := X3.good hG2
     simp (maxSteps := 4000000) (maxDischargeDepth := 8) only [zr, zh, ze, zi, zm, zq, zg, zY, zk, Zz, Zi, zt, zl, zf, zy, zd, zc, z0, z1, Nat.zero_add, Nat.reduceAdd, Zh, zO, List.length_cons, List.length_nil, allOne, zJ, Bool.and_self, Bool.and_true, Nat.beq_eq, Nat.ble_eq, Nat.le_refl, if_true, DS.wrC, Cells.size, Cells.fillFrom, Cells.set, Zj, wrN, Option.map_none, Vv, zo, zA, ZF, zX, ZW, Nat.reduceLT, g0, g1, g2, g3, g8, g9, hG3, ivL]
     obtain ⟨S4, hS4⟩ : ∃ S4 : DS, S4 = (s3.new (.cells (.list [.int .u32 0, .int .u32 0, .int .u32 0, .int .u32 0, .int .u32 0, .int .u32 0, .int .u32 0, .int .u32 0]) false)).upd s3.next (.cells (.list [.int .u32 1779033703, .int .u32 3144134277, .int .u32 1013904242, .int .u32 2773480762, .int .u32 1359893119, .int .u32 2600822924, .int .u32 528734635, .int .u32 1541459225]) false) := ⟨_, rfl⟩
     rw [← hS4]
     have X4 : Ext [] s3 S4 := by rw [hS4]; exact (Ext.new (F := [])).trans (Ext.upd (F := [s3.next]) (.inl (by simp))) (by simp)
     have gK4 : S4.get s3.next = some (.cells (.list ivL) false) := by rw [hS4]; simp (maxSteps := 4000000) (maxDischargeDepth := 8) only [DS.upd_get_self, Option.map_some, zo, hG3]; rfl
     have XB := X3.trans' X4
     have gp4 := XB.keep (XA.keep gp (by simp)) (by simp)
     have gV4 := XB.keep (X2.keep gV (by simp)) (by simp)
     have wV4 := XB.wrs (X2.wrs wV)
     simp (maxSteps := 4000000) only [zq, zg, zp, zk, zI, zS, zt, zl, zf, zd, zc, Nat.reduceEqDiff, z0, z1, if_true, reduceCtorEq, Option.map_none, Nat.add_zero, Nat.mul_one, Vv, g0, g1, g2, g3, g8, g9, Kn, Yh, F4]
     refine W.mono (VM gV4 wV4 (by rw [(Yd .u32 16).1]; omega) (Cm gp4 (by have := hp.1; omega)) hp.cut.one) ?_
     rintro ⟨v5, s5⟩ ⟨h5, X5, g5⟩
     simp only at h5 X5 g5
     subst h5
     rw [MQ hp] at g5
     simp (maxSteps := 4000000) only [zr, zh, ze, zi, zm, zq, zg, zp, zk, zt, zl, zj, zf, zd, zc, Nat.reduceEqDiff, z0, z1, Nat.zero_add, if_true, Option.map_some, Option.map_none, Nat.add_zero, Nat.mul_one, Vv, g0, g1, g2, g3, g8, g9, Kn, RP, Yh, F4]
     have wV5 := X5.wrs wV4
     have n3 : M + 2 ≤ s3.next := by have := X2.le; have := X3.le; omega
     refine W.mono (VM g5 wV5 (by rw [(hp.cut.app (Yd .u32 8)).1]; decide) (Cm (X5.keep gK4 (by simp; omega)) (Nat.le_refl 8)) (fun x hx => Ms.one x (List.mem_of_mem_drop (List.mem_of_mem_take hx)))) ?_
     rintro ⟨v6, s6⟩ ⟨h6, X6, g6⟩
     simp only at h6 X6 g6
     subst h6
     rw [MP hp] at g6
     have hU := Sn hp
     have u12 := hU.at (i := 12) (by decide)
     have u13 := hU.at (i := 13) (by decide)
     have u14 := hU.at (i := 14) (by decide)
     have wV6 := X6.wrs wV5
     simp (maxSteps := 4000000) only [zr, zh, zx, ze, zi, zm, zq, zg, zp, zY, zk, zI, zP, YB, Zl, Zz, zt, z7, Zb, zl, zj, zf, zy, zd, zc, Nat.reduceEqDiff, z0, z1, zL, Cells.get, Nat.zero_add, Nat.reduceAdd, Zh, zZ, List.length_cons, List.length_nil, allOne, zJ, Bool.and_self, Bool.and_true, Nat.beq_eq, Nat.ble_eq, Nat.blt_eq, Nat.reduceLeDiff, if_true, DS.wrC, Cells.size, Cells.fillFrom, Cells.set, DS.upd_get_self, DS.upd_wr, Option.map_some, Nat.mul_one, YN, g0, g1, g2, g3, g8, g9, g6, wV6, u12, u13, u14, hU.1, D0, DZ, DY, Nat.reduceLT, ZK, WE, ne_eq, VU]
     refine Kl (K := fun e y => e = .normal ∧ y.defers = [] ∧ (y.t.get 0 = some (.pointer (some ⟨p, 0, none⟩)) ∧ y.t.get 8 = some (.pointer (some ⟨M, 0, none⟩)) ∧ y.t.get 9 = some (.pointer (some ⟨M + 1, 0, none⟩))) ∧ Ext [M + 1] s6 y.s ∧ y.s.get (M + 1) = some (.cells (.list (v0F lp t last)) false)) ?_ ?_
     · cases last
       · simp (maxSteps := 4000000) only [zM, zu, zc, Nat.reduceEqDiff, z0, Bool.and_self, Bool.true_and, and_self, true_and, reduceCtorEq, DS.upd_get_self, Option.map_some, g0, g1, g2, g3, g8, g9, g6]
         exact ⟨(Ext.upd (.inl (by simp))).trans' (Ext.upd (.inl (by simp))), rfl⟩
       · simp (maxSteps := 4000000) only [zh, zi, zm, zq, zC, zg, zp, zY, zk, Qn, Zl, Zz, zt, Zb, zl, zj, zf, zy, zd, zc, Nat.reduceEqDiff, z0, z1, zL, Cells.get, Nat.zero_add, Nat.reduceAdd, Zh, zZ, List.length_cons, List.length_nil, allOne, zJ, Bool.and_self, Bool.and_true, Bool.true_and, Nat.beq_eq, Nat.ble_eq, Nat.blt_eq, Nat.reduceLeDiff, and_self, true_and, if_true, reduceCtorEq, DS.wrC, Cells.size, Cells.fillFrom, Cells.set, DS.upd_get_self, DS.upd_wr, Option.map_some, Nat.mul_one, YN, g0, g1, g2, g3, g8, g9, g6, wV6, u12, u13, u14, hU.1, D0, DZ, DY, Nat.reduceLT, ZK, WE, ne_eq, VU]
         exact ⟨((Ext.upd (.inl (by simp))).trans' (Ext.upd (.inl (by simp)))).trans' (Ext.upd (.inl (by simp))), rfl⟩
     · rintro e ⟨t7, s7, ds⟩ ⟨rfl, h7, ⟨g0, g8, g9⟩, X7, g7⟩
       simp only at h7 g0 g8 g9 X7 g7
       subst h7
       have hU7 := Ma hp t last
       have XC := (X6.weaken (G := [M + 1]) (fun k hk => .inl hk)).trans' X7
       have XD := (X5.weaken (G := [M + 1]) (fun k hk => .inl hk)).trans' XC
       have hG7 := XD.good (XB.good hG2)
       have gp7 := XD.keep gp4 (by simp; omega)
       have wp7 := XD.wrs (XB.wrs (XA.wrs wp))
       have wV7 := XD.wrs wV4
       have gM7 := XD.keep (XB.keep gN (by simp)) (by simp)
       have n7 : M + 2 ≤ s7.next := by have := XD.le; have := XB.le; have := X2.le; omega
       clear hS4 X4 gK4 hU u12 u13 u14
       simp (maxSteps := 4000000) only [zr, zh, ze, zq, zF, zB, z5]
       refine W.mono (TN hB hG7) ?_
       rintro ⟨v8, s8⟩ ⟨h8, X8, g88⟩
       simp only at h8 X8 g88
       subst h8
       obtain ⟨K, hK⟩ : ∃ K, K = s7.next := ⟨_, rfl⟩
       simp only [← hK] at g88 n7 ⊢
       simp (maxSteps := 4000000) only [zN, ze, zi, zm, zq, zg, zp, zk, zI, zS, zt, zl, zj, zf, zd, z1, g0, g8, g9]
       refine ZP (RI s8 M K p lp lq o t last) 10 (by omega) ⟨0, rfl, by omega, rfl, ?_, .refl, X8.keep g7 (by simp)⟩ ?_
       · simp (maxSteps := 4000000) only [zd, zc, Nat.reduceEqDiff, z0, Bool.true_and, true_and, reduceCtorEq, g0, g8, g9]
         rfl
       · rintro n ⟨t9, s9, ds⟩ hn ⟨j, rfl, hj, hds, ⟨g0, g8, g9, g79, g81⟩, X9, gV9⟩
         simp only at hds g0 g8 g9 g79 g81 X9 gV9
         subst hds
         have hG8 := X8.good hG7
         have hG9 := X9.good hG8
         have hUj := hU7.rounds (m := mF lq o 16) j
         have gM9 := X9.keep (X8.keep gM7 (by simp)) (by simp)
         have wV9 := X9.wrs (X8.wrs wV7)
         by_cases c1 : j < 10
         · have e1 : (j : Int) < 10 := by omega
           have w1 : zE .i64 ((j : Int) + 1) = ((j + 1 : Nat) : Int) := by rw [zR (by omega) (by omega)]; omega
           have hld : ldA 16 (.pointer (some ⟨K, j * 16, none⟩)) s9 = some (.agg ⟨V0 j⟩) := by
            unfold ldA DS.read
            simp only [X9.keep g88 (by simp; omega), SU j c1]
           have hfill : (Cells.list [.int .u8 0, .int .u8 0, .int .u8 0, .int .u8 0, .int .u8 0, .int .u8 0, .int .u8 0, .int .u8 0, .int .u8 0, .int .u8 0, .int .u8 0, .int .u8 0, .int .u8 0, .int .u8 0, .int .u8 0, .int .u8 0]).fillFrom 0 (V0 j) = .list (V0 j) := by
            rw [Yt _ _ _ (by rw [VC j c1]; decide), VC j c1]
            simp
           simp (maxSteps := 4000000) (maxDischargeDepth := 8) only [zr, zh, zx, zN, zM, ze, zi, zm, zq, zC, zg, zp, zY, zk, zP, zS, Zz, Zi, zt, z7, Zb, zl, zj, zf, zy, zd, zc, z0, z1, Nat.zero_add, Nat.reduceAdd, Zh, zO, List.length_cons, List.length_nil, Bool.and_true, Nat.beq_eq, Nat.ble_eq, Nat.blt_eq, Nat.le_refl, if_true, DS.wrC, Cells.size, wrN, YF, zD, Nat.mul_one, decide_true, YN, zo, zA, ZF, zX, ZW, Nat.reduceLT, Nat.lt_add_one, g0, g8, g9, g79, g81, e1, w1, c1, hld, hG9, VC j c1, Pp j c1, hfill]
           obtain ⟨T0, hT0⟩ : ∃ T0 : DS, T0 = (s9.new (.cells (.list [.int .u8 0, .int .u8 0, .int .u8 0, .int .u8 0, .int .u8 0, .int .u8 0, .int .u8 0, .int .u8 0, .int .u8 0, .int .u8 0, .int .u8 0, .int .u8 0, .int .u8 0, .int .u8 0, .int .u8 0, .int .u8 0]) false)).upd s9.next (.cells (.list (V0 j)) false) := ⟨_, rfl⟩
           rw [← hT0]
           have Y0 : Ext [] s9 T0 := by rw [hT0]; exact (Ext.new (F := [])).trans (Ext.upd (F := [s9.next]) (.inl (by simp))) (by simp)
           have gR0 : T0.get s9.next = some (.cells (.list (V0 j)) false) := by rw [hT0]; simp (maxSteps := 4000000) (maxDischargeDepth := 8) only [DS.upd_get_self, Option.map_some, zo, hG9]
           have n9 : M + 2 ≤ s9.next := by have := X9.le; have := X8.le; omega
           have gM0 := Y0.keep gM9 (by simp)
           have gV0 := Y0.keep gV9 (by simp)
           have wV0 := Y0.wrs wV9
           have hU0 := hUj
           have ra := fun {i : Nat} (hi : i < 16) => ST c1 hi
           have rl := fun {i : Nat} (hi : i < 16) => K0 j c1 i hi
           have rm := fun {i : Nat} (hi : i < 16) => (SZ lq o 16).at (K0 j c1 i hi)
           simp (maxSteps := 4000000) (maxDischargeDepth := 8) only [zq, zg, zp, zk, Zl, zF, zt, zl, zj, zB, zf, zd, zc, z0, z1, z4, z5, zL, Cells.get, Nat.zero_add, Nat.blt_eq, if_true, Nat.add_zero, zD, Nat.mul_one, YN, zX, Nat.reduceLT, Nat.lt_add_one, Nat.succ_pos, g0, g8, g9, g79, g81, gR0, gM0, P9, MD, DX, ra (i := 0) (by decide), ra (i := 1) (by decide), rl (i := 0) (by decide), rl (i := 1) (by decide), rm (i := 0) (by decide), rm (i := 1) (by decide), Nat.reduceLT]
           refine W.mono (JD (hB.fstir.trans (congrArg some Ws)) hB.istir (hB.frot.trans (congrArg some W8)) hB.irot 0 4 8 12 gV0 wV0 hU0 rfl d) ?_
           rintro ⟨v1, T1⟩ ⟨h1, Y1, gV1⟩
           simp only at h1 Y1 gV1
           subst h1
           have gR1 := Y1.keep gR0 (by simp; omega)
           have gM1 := Y1.keep gM0 (by simp)
           have wV1 := Y1.wrs wV0
           have hU1 := hU0.stir 0 4 8 12 (nAt (mF lq o 16) (Xu j 0)) (nAt (mF lq o 16) (Xu j 1))
           simp (maxSteps := 4000000) (maxDischargeDepth := 8) only [zr, zh, ze, zi, zm, zq, zg, zp, zk, Zl, zF, zt, zl, zj, zB, zf, zd, zc, z0, z1, z4, z5, zL, Cells.get, Nat.zero_add, Nat.blt_eq, if_true, zD, Nat.mul_one, YN, zX, Nat.reduceLT, Nat.lt_add_one, g0, g8, g9, g79, g81, gR1, gM1, Mz, My, DX, ra (i := 2) (by decide), ra (i := 3) (by decide), rl (i := 2) (by decide), rl (i := 3) (by decide), rm (i := 2) (by decide), rm (i := 3) (by decide), Nat.reduceLT]
           refine W.mono (JD (hB.fstir.trans (congrArg some Ws)) hB.istir (hB.frot.trans (congrArg some W8)) hB.irot 1 5 9 13 gV1 wV1 hU1 rfl d) ?_
           rintro ⟨v2, T2⟩ ⟨h2, Y2, gV2⟩
           simp only at h2 Y2 gV2
           subst h2
           have gR2 := Y2.keep gR1 (by simp; omega)
           have gM2 := Y2.keep gM1 (by simp)
           have wV2 := Y2.wrs wV1
           have hU2 := hU1.stir 1 5 9 13 (nAt (mF lq o 16) (Xu j 2)) (nAt (mF lq o 16) (Xu j 3))
           simp (maxSteps := 4000000) (maxDischargeDepth := 8) only [zr, zh, ze, zi, zm, zq, zg, zp, zk, Zl, zF, zt, zl, zj, zB, zf, zd, zc, z0, z1, z4, z5, zL, Cells.get, Nat.zero_add, Nat.blt_eq, if_true, zD, Nat.mul_one, YN, zX, Nat.reduceLT, Nat.lt_add_one, g0, g8, g9, g79, g81, gR2, gM2, M5, M4, DX, ra (i := 4) (by decide), ra (i := 5) (by decide), rl (i := 4) (by decide), rl (i := 5) (by decide), rm (i := 4) (by decide), rm (i := 5) (by decide), Nat.reduceLT]
           refine W.mono (JD (hB.fstir.trans (congrArg some Ws)) hB.istir (hB.frot.trans (congrArg some W8)) hB.irot 2 6 10 14 gV2 wV2 hU2 rfl d) ?_
           rintro ⟨v3, T3⟩ ⟨h3, Y3, gV3⟩
           simp only at h3 Y3 gV3
           subst h3
           have gR3 := Y3.keep gR2 (by simp; omega)
           have gM3 := Y3.keep gM2 (by simp)
           have wV3 := Y3.wrs wV2
           have hU3 := hU2.stir 2 6 10 14 (nAt (mF lq o 16) (Xu j 4)) (nAt (mF lq o 16) (Xu j 5))
           simp (maxSteps := 4000000) (maxDischargeDepth := 8) only [zr, zh, ze, zi, zm, zq, zg, zp, zk, Zl, zF, zt, zl, zj, zB, zf, zd, zc, z0, z1, z4, z5, zL, Cells.get, Nat.zero_add, Nat.blt_eq, if_true, zD, Nat.mul_one, YN, zX, Nat.reduceLT, Nat.lt_add_one, g0, g8, g9, g79, g81, gR3, gM3, M3, M2, DX, ra (i := 6) (by decide), ra (i := 7) (by decide), rl (i := 6) (by decide), rl (i := 7) (by decide), rm (i := 6) (by decide), rm (i := 7) (by decide), Nat.reduceLT]
           refine W.mono (JD (hB.fstir.trans (congrArg some Ws)) hB.istir (hB.frot.trans (congrArg some W8)) hB.irot 3 7 11 15 gV3 wV3 hU3 rfl d) ?_
           rintro ⟨v4, T4⟩ ⟨h4, Y4, gV4⟩
           simp only at h4 Y4 gV4
           subst h4
           have gR4 := Y4.keep gR3 (by simp; omega)
           have gM4 := Y4.keep gM3 (by simp)
           have wV4 := Y4.wrs wV3
           have hU4 := hU3.stir 3 7 11 15 (nAt (mF lq o 16) (Xu j 6)) (nAt (mF lq o 16) (Xu j 7))
           simp (maxSteps := 4000000) (maxDischargeDepth := 8) only [zr, zh, ze, zi, zm, zq, zg, zp, zk, Zl, zF, zt, zl, zj, zB, zf, zd, zc, z0, z1, z4, z5, zL, Cells.get, Nat.zero_add, Nat.blt_eq, if_true, zD, Nat.mul_one, YN, zX, Nat.reduceLT, Nat.lt_add_one, g0, g8, g9, g79, g81, gR4, gM4, M1, M0, DX, ra (i := 8) (by decide), ra (i := 9) (by decide), rl (i := 8) (by decide), rl (i := 9) (by decide), rm (i := 8) (by decide), rm (i := 9) (by decide), Nat.reduceLT]
           refine W.mono (JD (hB.fstir.trans (congrArg some Ws)) hB.istir (hB.frot.trans (congrArg some W8)) hB.irot 0 5 10 15 gV4 wV4 hU4 rfl d) ?_
           rintro ⟨v5, T5⟩ ⟨h5, Y5, gV5⟩
           simp only at h5 Y5 gV5
           subst h5
           have gR5 := Y5.keep gR4 (by simp; omega)
           have gM5 := Y5.keep gM4 (by simp)
           have wV5 := Y5.wrs wV4
           have hU5 := hU4.stir 0 5 10 15 (nAt (mF lq o 16) (Xu j 8)) (nAt (mF lq o 16) (Xu j 9))
           simp (maxSteps := 4000000) (maxDischargeDepth := 8) only [zr, zh, ze, zi, zm, zq, zg, zp, zk, Zl, zF, zt, zl, zj, zB, zf, zd, zc, z0, z1, z4, z5, zL, Cells.get, Nat.zero_add, Nat.blt_eq, if_true, zD, Nat.mul_one, YN, zX, Nat.reduceLT, Nat.lt_add_one, g0, g8, g9, g79, g81, gR5, gM5, MC, MB, DX, ra (i := 10) (by decide), ra (i := 11) (by decide), rl (i := 10) (by decide), rl (i := 11) (by decide), rm (i := 10) (by decide), rm (i := 11) (by decide), Nat.reduceLT]
           refine W.mono (JD (hB.fstir.trans (congrArg some Ws)) hB.istir (hB.frot.trans (congrArg some W8)) hB.irot 1 6 11 12 gV5 wV5 hU5 rfl d) ?_
           rintro ⟨v6, T6⟩ ⟨h6, Y6, gV6⟩
           simp only at h6 Y6 gV6
           subst h6
           have gR6 := Y6.keep gR5 (by simp; omega)
           have gM6 := Y6.keep gM5 (by simp)
           have wV6 := Y6.wrs wV5
           have hU6 := hU5.stir 1 6 11 12 (nAt (mF lq o 16) (Xu j 10)) (nAt (mF lq o 16) (Xu j 11))
           simp (maxSteps := 4000000) (maxDischargeDepth := 8) only [zr, zh, ze, zi, zm, zq, zg, zp, zk, Zl, zF, zt, zl, zj, zB, zf, zd, zc, z0, z1, z4, z5, zL, Cells.get, Nat.zero_add, Nat.blt_eq, if_true, zD, Nat.mul_one, YN, zX, Nat.reduceLT, Nat.lt_add_one, g0, g8, g9, g79, g81, gR6, gM6, D0, DZ, DX, ra (i := 12) (by decide), ra (i := 13) (by decide), rl (i := 12) (by decide), rl (i := 13) (by decide), rm (i := 12) (by decide), rm (i := 13) (by decide), Nat.reduceLT]
           refine W.mono (JD (hB.fstir.trans (congrArg some Ws)) hB.istir (hB.frot.trans (congrArg some W8)) hB.irot 2 7 8 13 gV6 wV6 hU6 rfl d) ?_
           rintro ⟨v7, T7⟩ ⟨h7, Y7, gV7⟩
           simp only at h7 Y7 gV7
           subst h7
           have gR7 := Y7.keep gR6 (by simp; omega)
           have gM7 := Y7.keep gM6 (by simp)
           have wV7 := Y7.wrs wV6
           have hU7 := hU6.stir 2 7 8 13 (nAt (mF lq o 16) (Xu j 12)) (nAt (mF lq o 16) (Xu j 13))
           simp (maxSteps := 4000000) (maxDischargeDepth := 8) only [zh, ze, zi, zm, zq, zg, zp, zk, Zl, zF, zt, zl, zj, zB, zf, zd, zc, z0, z1, z4, z5, zL, Cells.get, Nat.zero_add, Nat.blt_eq, if_true, zD, Nat.mul_one, YN, zX, Nat.reduceLT, Nat.lt_add_one, g0, g8, g9, g79, g81, gR7, gM7, DY, MA, DX, ra (i := 14) (by decide), ra (i := 15) (by decide), rl (i := 14) (by decide), rl (i := 15) (by decide), rm (i := 14) (by decide), rm (i := 15) (by decide), Nat.reduceLT]
           refine W.mono (JD (hB.fstir.trans (congrArg some Ws)) hB.istir (hB.frot.trans (congrArg some W8)) hB.irot 3 4 9 14 gV7 wV7 hU7 rfl d) ?_
           rintro ⟨v8, T8⟩ ⟨h8, Y8, gV8⟩
           simp only at h8 Y8 gV8
           subst h8
           have gR8 := Y8.keep gR7 (by simp; omega)
           have gM8 := Y8.keep gM7 (by simp)
           have wV8 := Y8.wrs wV7
           have hU8 := hU7.stir 3 4 9 14 (nAt (mF lq o 16) (Xu j 14)) (nAt (mF lq o 16) (Xu j 15))
           simp (maxSteps := 4000000) only [zh, ze, zK, zi, zW, zm, zq, zg, zp, zk, zI, zP, z7, Zb, zl, zj, zf, zd, zc, Nat.reduceEqDiff, z0, z1, if_true, g0, g8, g9, g79, g81, w1]
           refine ⟨10 - (j + 1), by omega, ⟨j + 1, rfl, by omega, rfl, by simp (maxSteps := 4000000) only [zd, zc, Nat.reduceEqDiff, z0, Bool.and_self, and_self, reduceCtorEq, g0, g8, g9, g79, g81], X9.trans' ((Y0.weaken (by simp)).trans' (Y1.trans' (Y2.trans' (Y3.trans' (Y4.trans' (Y5.trans' (Y6.trans' (Y7.trans' Y8)))))))), ?_⟩⟩
           exact gV8
         · obtain rfl : j = 10 := by omega
           have e1 : ¬ ((10 : Nat) : Int) < 10 := by omega
           simp (maxSteps := 4000000) only [zr, zh, zx, zN, ZA, ze, Ze, Zg, zi, Zf, zm, zq, zu, zg, zp, zk, zI, zP, z7, Zb, zl, zj, zf, zd, z1, if_true, decide_false, g0, g8, g9, g79, g81, e1]
           have hVV := hU7.rounds (m := mF lq o 16) 10
           have gp9 := X9.keep (X8.keep gp7 (by simp)) (by simp; omega)
           have wp9 := X9.wrs (X8.wrs wp7)
           have hne : ¬ M + 1 = p := by omega
           have hfin : ∀ sf, Ext [p] s9 sf → Ext [p] s sf := fun sf h => by
            have a1 : Ext [] s S4 := XA.trans' XB
            have a2 : Ext [] s s7 := a1.trans XD (by have := XB.le; have := XA.le; simp; omega)
            have a3 : Ext [] s s9 := (a2.trans' X8).trans X9 (by simp; omega)
            exact (a3.weaken (by simp)).trans' h
           refine ZP (XI s9 M p lp (YV (mF lq o 16) (v0F lp t last) 10)) 8 (by omega) ⟨0, rfl, by omega, rfl, ?_, .refl, gp9⟩ ?_
           · simp (maxSteps := 4000000) only [zd, zc, Nat.reduceEqDiff, z0, Bool.true_and, true_and, reduceCtorEq, g0, g8, g9]
             rfl
           rintro n ⟨ta, sa, ds⟩ hn ⟨j, rfl, hj, hds, ⟨g0, g9, g159⟩, Xa, ga⟩
           simp only at hds g0 g9 g159 Xa ga
           subst hds
           have wpa := Xa.wrs wp9
           by_cases c1 : j < 8
           · have e1 : (j : Int) < 8 := by omega
             have w1 : zE .i64 ((j : Int) + 1) = ((j + 1 : Nat) : Int) := by rw [zR (by omega) (by omega)]; omega
             have w8 : zE .i64 ((j : Int) + 8) = ((j + 8 : Nat) : Int) := by rw [zR (by omega) (by omega)]; omega
             have gVa := Xa.keep gV9 (by simp; omega)
             have hpj : getN (Jx lp (YV (mF lq o 16) (v0F lp t last) 10) j) j = some (.int .u32 (nAt lp j)) := by
              rw [Kr (Nat.le_refl _)]
              have := hp.at c1
              rwa [Nat.zero_add] at this
             have hv1 := hVV.at (i := j) (by omega)
             have hv2 := hVV.at (i := j + 8) (by omega)
             have l16 : j < 16 := by omega
             have l16' : j + 8 < 16 := by omega
             have hle : j + 1 ≤ lp.length := by have := hp.1; omega
             simp (maxSteps := 4000000) only [zr, zh, zx, zN, zM, ze, zK, zi, zW, zm, zq, zC, zg, zp, zY, zk, zI, zP, zS, Zl, Zz, zt, z7, Zb, zl, zj, zf, zy, zd, zc, Nat.reduceEqDiff, z0, z1, zL, Cells.get, Nat.zero_add, Zh, zZ, List.length_cons, List.length_nil, allOne, zJ, Bool.and_self, Bool.and_true, Nat.beq_eq, Nat.ble_eq, Nat.blt_eq, if_true, reduceCtorEq, DS.wrC, Cells.size, Cells.fillFrom, Cells.set, zD, Nat.mul_one, decide_true, YN, g0, g9, g159, e1, w1, w8, c1, gVa, ga, hpj, hv1, hv2, l16, l16', wpa, VQ, hle]
             refine ⟨8 - (j + 1), by omega, ⟨j + 1, rfl, by omega, rfl, by simp (maxSteps := 4000000) only [zd, zc, Nat.reduceEqDiff, z0, Bool.and_self, and_self, reduceCtorEq, g0, g9], Xa.trans' (Ext.upd (.inl (by simp))), ?_⟩⟩
             simp (maxSteps := 4000000) only [DS.upd_get_self, Option.map_some, ga]
             rfl
           · obtain rfl : j = 8 := by omega
             have e1 : ¬ ((8 : Nat) : Int) < 8 := by omega
             simp (maxSteps := 4000000) only [zr, zh, zx, ZA, ze, Ze, Zg, zi, Zf, zm, zq, zu, zg, zp, zk, zP, z7, Zb, ZO, zl, zj, zf, zd, z1, zw, zG, if_true, decide_false, g0, g9, g159, e1]
             exact hQ _ ⟨rfl, hfin _ Xa, ga⟩
theorem NL (hG : s.Good) : W (dcall E (d + 2) (.func (.func 65) #[] #[]) [] s) fun r => ∃ p, r.1 = .pointer (some ⟨p, 0, none⟩) ∧ s.next ≤ p ∧ Ext [] s r.2 ∧ r.2.get p = some (.cells (.list h0L) false) ∧ r.2.wr p = true := by
 refine Zw fun Q hQ => ?_
 rw [zT hB.inew hB.fnew rfl]
 simp (maxSteps := 4000000) only [zr, zh, ze, zi, zm, zq, zg, zI, zF, zj, zB, zf, z5, pp, pv, d65]
 refine W.mono (DK hB hG) ?_
 rintro ⟨v3, s3⟩ ⟨h3, X3⟩
 simp only at h3 X3
 subst h3
 have hG3 := X3.good hG
 simp (maxSteps := 4000000) (maxDischargeDepth := 8) only [zr, zh, zV, ze, zi, zm, zq, zg, zp, zY, YA, zk, zI, zP, zS, Yf, zQ, Zl, Zz, Xe, zt, z7, Zb, zH, zl, zj, zf, zy, zd, zc, z0, z1, zw, zG, zL, Cells.get, getN, Nat.zero_add, Nat.reduceAdd, Zh, zZ, zO, List.length_cons, List.length_nil, allOne, zJ, Bool.and_self, Bool.and_true, Bool.and_eq_true, Nat.beq_eq, Nat.ble_eq, Nat.blt_eq, Nat.reduceLeDiff, Nat.le_refl, and_self, if_true, DS.wrC, Cells.size, Cells.fillFrom, Cells.set, Zj, z6, List.take_zero, List.drop_succ_cons, List.drop_zero, List.nil_append, List.cons_append, wrN, Nat.add_zero, Nat.mul_one, YN, zo, zA, ZF, zX, Nat.reduceLT, Nat.lt_add_one, Nat.succ_pos, hG3, ivL, P9]
 refine hQ _ ⟨s3.next, rfl, X3.le, X3.trans' ((Ext.new (F := [])).trans (Ext.upd (F := [s3.next]) (.inl (by simp))) (by simp)), ?_, ?_⟩
 · rw [DS.upd_get_self, DS.new_get_self hG3]; rfl
 · rw [DS.upd_wr]; exact (hG3 _ (Nat.le_refl _)).2
theorem NZ {p n : Nat} {H : List Value} {y : Value} {r : List Int} {f : Nat} (hG : s.Good) (gp : s.get p = some (.cells (.list H) false)) (wp : s.wr p = true) (hH : HOk H n) (hy : SlR s y r) (hpy : p ∉ blk y) (hf : r.length ≤ f) (hlf : r.length < E.lf) :
 W (dcall E (d + 4) (.func (.func 66) #[] #[]) [.pointer (some ⟨p, 0, none⟩), y] s) fun r' => Ext [p] s r'.2 ∧ r'.2.get p = some (.cells (.list (Jt f H r)) false) ∧ ∃ n', HOk (Jt f H r) n' := by
 have hpl := DS.get_lt' gp
 refine Zw fun Q hQ => ?_
 rw [zT hB.iadd hB.fadd rfl]
 simp (maxSteps := 4000000) only [zr, zh, zx, zN, zM, ze, zi, zm, zq, zu, zg, ZD, zk, zI, Z5, Zv, zl, zj, zf, zd, zc, z0, zn, List.getElem?_cons_zero, z1, if_false, reduceCtorEq, Bool.not_false, z3, pp, pv, d66]
 refine ZP (AI s p (Jt f H r)) r.length hlf ⟨f, H, n, r, y, rfl, hf, rfl, hH, rfl, ?_, hy, hpy, .refl, gp⟩ ?_
 · simp (maxSteps := 4000000) only [zc, Nat.reduceEqDiff, z0, zn, List.getElem?_cons_zero, List.getElem?_cons_succ, Bool.and_self, and_self, reduceCtorEq]
 rintro m ⟨tt, s2, ds⟩ hm ⟨f2, H2, n2, r2, y2, rfl, hf2, hFin, hH2, hds, ⟨g0, g1⟩, hy2, hpy2, X2, gp2⟩
 simp only at hds g0 g1 hy2 X2 gp2
 subst hds
 obtain ⟨ya, yc, rfl⟩ := hy2.len
 have hG2 := X2.good hG
 have wp2 := X2.wrs wp
 by_cases c1 : 0 < r2.length
 · have e1 : (0 : Int) < (r2.length : Int) := by omega
   have hn72 := hH2.hn
   simp (maxSteps := 4000000) only [zr, zh, zx, zN, zM, ze, zi, zm, zq, zC, zg, zp, zk, zI, zP, zS, zQ, Zk, Zl, zt, z7, Zb, zl, zj, zf, zd, zc, z0, z1, zL, Cells.get, Nat.zero_add, if_true, reduceCtorEq, decide_true, g0, g1, e1, gp2, hn72]
   have hcnt := hH2.cnt
   have hlen := hH2.len
   have ha73 := hH2.ha
   refine Kl (K := fun e y => e = .normal ∧ y.defers = [] ∧ (y.t.get 0 = some (.pointer (some ⟨p, 0, none⟩)) ∧ y.t.get 1 = some (.slice ya r2.length yc)) ∧ Ext [p] s2 y.s ∧ y.s.get p = some (.cells (.list (Z7 H2)) false)) ?_ ?_
   · by_cases c2 : n2 = 64
     · have e2 : ((n2 : Int) = 64) := by omega
       have hfl : Z7 H2 = Wo H2 := by unfold Z7; rw [if_pos (by rw [hcnt]; exact c2)]
       have hs73 : getN (Zj H2 73 (.int .u64 (zE .u64 (nAt H2 73 + 64)))) 73 = some (.int .u64 (zE .u64 (nAt H2 73 + 64))) := QZ (by rw [ha73]; rfl)
       simp (maxSteps := 4000000) only [zr, zh, ze, zi, zm, zq, zC, zg, zp, zY, zk, zI, zP, zS, zQ, Zl, Zz, zF, zt, z7, Zb, zl, zj, zB, zf, zy, zd, zc, Nat.reduceEqDiff, z0, z1, z4, z5, zL, Cells.get, Nat.zero_add, Nat.reduceAdd, Zh, zZ, List.length_cons, List.length_nil, allOne, zJ, Bool.and_self, Bool.and_true, Nat.beq_eq, Nat.ble_eq, Nat.le_refl, if_true, reduceCtorEq, DS.wrC, Cells.size, Cells.fillFrom, Cells.set, DS.upd_get_self, Option.map_some, Nat.add_zero, decide_true, g0, g1, gp2, wp2, e2, ha73, hlen, hs73]
       refine W.mono (CV hB (lp := Zj H2 73 (.int .u64 (zE .u64 (nAt H2 73 + 64)))) (lq := Zj H2 73 (.int .u64 (zE .u64 (nAt H2 73 + 64)))) ?_ ?_ ?_ ?_ (hH2.hw.other (.inr (by omega))) (hH2.hb.other (.inr (by omega)))) ?_
       · rw [DS.upd_good]; exact hG2
       · simp (maxSteps := 4000000) only [DS.upd_get_self, Option.map_some, gp2]
       · simp (maxSteps := 4000000) only [DS.upd_wr, wp2]
       · simp (maxSteps := 4000000) only [DS.upd_get_self, Option.map_some, gp2]
       rintro ⟨v3, s3⟩ ⟨h3, X3, g3⟩
       simp only at h3 X3 g3
       subst h3
       have wp3 : s3.wr p = true := X3.wrs (by simp (maxSteps := 4000000) only [DS.upd_wr, wp2])
       simp (maxSteps := 4000000) only [zh, ze, zi, zm, zq, zg, zp, zY, zk, zI, zS, zQ, Zz, zt, zl, zj, zf, zy, zd, zc, Nat.reduceEqDiff, z0, z1, Nat.zero_add, Nat.reduceAdd, Zh, zZ, List.length_cons, List.length_nil, allOne, zJ, Bool.and_self, Bool.and_true, Bool.true_and, Nat.beq_eq, Nat.ble_eq, Nat.reduceLeDiff, and_self, true_and, if_true, reduceCtorEq, DS.wrC, Cells.size, Cells.fillFrom, Cells.set, DS.upd_get_self, Option.map_some, g0, g1, g3, wp3, Jy, ZK, hlen]
       refine ⟨(Ext.upd (.inl (by simp))).trans' (X3.trans' (Ext.upd (.inl (by simp)))), ?_⟩
       rw [hfl]; rfl
     · have e2 : ¬ ((n2 : Int) = 64) := by omega
       have hfl : Z7 H2 = H2 := by unfold Z7; rw [if_neg (by rw [hcnt]; exact c2)]
       simp (maxSteps := 4000000) only [zM, zu, zc, Nat.reduceEqDiff, z0, Bool.and_self, Bool.and_true, Bool.true_and, and_self, and_true, true_and, reduceCtorEq, decide_false, g0, g1, gp2, e2, hfl]
       exact .refl
   · rintro e ⟨t3, s3, ds⟩ ⟨rfl, h3, ⟨g0, g1⟩, X3, g3⟩
     simp only at h3 g0 g1 X3 g3
     subst h3
     obtain ⟨n3, hn3, hH3, hc3⟩ := hH2.full
     have hn72' := hH3.hn
     have hl3 := hH3.len
     have wp3 := X3.wrs wp2
     have hy3 := hy2.keep X3 (fun k hk => by simp; rintro rfl; exact hpy2 hk)
     have hbd : Z6 64 64 (some (.int .i64 (n3 : Int))) none none = some (n3, 64, 64) := by
      unfold Z6
      simp only [zD, Nat.ble_eq.mpr (show n3 ≤ 64 by omega), if_true]
     simp (maxSteps := 4000000) only [zr, zh, ze, zq, zg, zp, zk, zI, zS, zQ, Zl, zt, zl, zf, zd, zc, Nat.reduceEqDiff, z0, z1, zL, Cells.get, Nat.zero_add, if_true, reduceCtorEq, Option.map_some, Option.map_none, Nat.mul_one, Vv, g0, g1, g3, hn72', hbd, Yh, F4]
     refine W.mono (VM g3 wp3 (by rw [hl3]; omega) hy3.view (Db r2).one) ?_
     rintro ⟨v4, s4⟩ ⟨h4, X4, g4⟩
     simp only at h4 X4 g4
     subst h4
     rw [← hc3] at g4
     have hl4 := put_len hH3 r2
     have hg4 := VF hH3 r2 (i := 72) (.inr (by omega))
     rw [hn72'] at hg4
     have hc : min (64 - n3) (u8s r2).length = min (64 - n3) r2.length := by rw [(Db r2).1]
     obtain ⟨c, hcc⟩ : ∃ c, c = min (64 - n3) r2.length := ⟨_, rfl⟩
     have hcle : c ≤ r2.length := by omega
     have hput : HOk (Xv (Z7 H2) r2) (n3 + c) := by rw [hcc]; exact hH3.put r2
     have hpf : Xv (Z7 H2) r2 = Zj ((Z7 H2).take (8 + nOf (Z7 H2)) ++ ((u8s r2).take (min (64 - nOf (Z7 H2)) (u8s r2).length) ++ (Z7 H2).drop (8 + nOf (Z7 H2) + min (64 - nOf (Z7 H2)) (u8s r2).length))) 72 (.int .i64 ((n3 + c : Nat) : Int)) := by
      unfold Xv
      rw [hcc, hc3]
     obtain ⟨L4, hL4⟩ : ∃ L4, L4 = (Z7 H2).take (8 + nOf (Z7 H2)) ++ ((u8s r2).take (min (64 - nOf (Z7 H2)) (u8s r2).length) ++ (Z7 H2).drop (8 + nOf (Z7 H2) + min (64 - nOf (Z7 H2)) (u8s r2).length)) := ⟨_, rfl⟩
     rw [← hL4] at g4 hl4 hg4 hpf
     rw [hc, ← hcc]
     have w1 : zE .i64 ((n3 : Int) + (c : Int)) = ((n3 + c : Nat) : Int) := by rw [zR (by omega) (by omega)]; omega
     have hy4 := hy3.keep X4 (fun k hk => by simp; rintro rfl; exact hpy2 hk)
     obtain ⟨w, hw, hyw, hbw⟩ := hy4.drop hcle
     have wp4 := X4.wrs wp3
     simp (maxSteps := 4000000) only [zr, zh, ze, zK, zi, zW, zm, zq, zg, zp, zY, zk, zI, zP, zS, zQ, Zl, Zz, zt, z7, Zb, zl, zf, zy, zd, zc, Nat.reduceEqDiff, z0, z1, zL, Cells.get, Nat.zero_add, Nat.reduceAdd, Zh, zZ, List.length_cons, List.length_nil, allOne, zJ, Bool.and_self, Bool.and_true, Nat.beq_eq, Nat.ble_eq, Nat.reduceLeDiff, if_true, reduceCtorEq, DS.wrC, Cells.size, Cells.fillFrom, Cells.set, Option.map_some, Ke, Option.map_none, g0, g1, g4, hg4, hl4, w1, wp4, hw]
     have XU : Ext [p] s4 (s4.upd p (.cells (.list (Zj L4 72 (.int .i64 ((n3 + c : Nat) : Int)))) false)) := Ext.upd (.inl (by simp))
     refine ⟨(r2.drop c).length, by rw [List.length_drop]; omega, ⟨f2 - 1, Xv (Z7 H2) r2, n3 + c, r2.drop c, w, rfl, by rw [List.length_drop]; omega, ?_, hput, rfl, by simp (maxSteps := 4000000) only [zd, zc, z0, Bool.and_self, and_self, reduceCtorEq, g0, g1], hyw.keep XU (fun k hk => by simp; rintro rfl; exact hpy2 (hbw _ hk)), fun hk => hpy2 (hbw _ hk), X2.trans' (X3.trans' (X4.trans' XU)), ?_⟩⟩
     · rw [← hFin]
       obtain ⟨x, r3, rfl⟩ : ∃ x r3, r2 = x :: r3 := by
        cases r2 with
        | nil => simp at c1
        | cons x r3 => exact ⟨x, r3, rfl⟩
       obtain ⟨f3, rfl⟩ : ∃ f3, f2 = f3 + 1 := ⟨f2 - 1, by simp at hf2; omega⟩
       show _ = Jt f3 (Xv (Z7 H2) (x :: r3)) ((x :: r3).drop (min (64 - nOf (Z7 H2)) (x :: r3).length))
       rw [hc3, ← hcc]; rfl
     · simp (maxSteps := 4000000) only [DS.upd_get_self, Option.map_some, g4]
       rw [hpf]
 · have hr : r2 = [] := List.eq_nil_of_length_eq_zero (by omega)
   subst hr
   have e1 : ¬ (0 : Int) < (([] : List Int).length : Int) := by simp
   have hend : Jt f2 H2 [] = H2 := by cases f2 <;> rfl
   rw [hend] at hFin
   have e0 : ¬ (0 : Int) < ((0 : Nat) : Int) := by decide
   simp (maxSteps := 4000000) only [zr, zh, zx, zV, ZA, ze, Ze, Zg, zi, Zf, zm, zq, zu, zg, zp, zk, zI, zP, Zk, zt, z7, Zb, zH, zl, zj, zf, zd, zc, z0, z1, zw, zG, List.length_nil, if_true, reduceCtorEq, decide_false, g0, g1, e1, e0]
   refine hQ _ ⟨X2, ?_, n2, ?_⟩
   · rw [← hFin]; exact gp2
   · rw [← hFin]; exact hH2
theorem NT {p n : Nat} {H : List Value} (hG : s.Good) (gp : s.get p = some (.cells (.list H) false)) (hH : HOk H n) :
 W (dcall E (d + 4) (.func (.func 67) #[] #[]) [.pointer (some ⟨p, 0, none⟩)] s) fun r => r.1 = .agg ⟨FX H⟩ ∧ Ext [] s r.2 := by
 have hpl := DS.get_lt' gp
 have hlf := hB.lf
 refine Zw fun Q hQ => ?_
 rw [zT hB.idig hB.fdig rfl]
 have hld : ∀ z, ldA 8 (.pointer (some ⟨p, 0, none⟩)) (s.new z) = some (.agg ⟨cut 0 8 H⟩) := fun z => by
  unfold ldA DS.read
  simp only [DS.new_get_lt hpl, gp]
  rw [ZJ _ _ _ (by rw [hH.len]; decide)]; rfl
 have hfill : (Cells.list [.int .u32 0, .int .u32 0, .int .u32 0, .int .u32 0, .int .u32 0, .int .u32 0, .int .u32 0, .int .u32 0]).fillFrom 0 (cut 0 8 H) = .list (cut 0 8 H) := by
  rw [Yt _ _ _ (by rw [hH.hw.cut.1]; decide), hH.hw.cut.1]
  simp
 simp (maxSteps := 4000000) (maxDischargeDepth := 8) only [zr, zh, zx, zM, ze, zi, zm, zq, zu, zg, zp, zY, YA, ZD, zk, zI, Z5, zS, Yf, zQ, Zz, Zi, zt, Zv, zl, zj, zf, zy, zd, zc, z0, zn, List.getElem?_cons_zero, z1, Nat.zero_add, Nat.reduceAdd, Zh, zO, List.length_cons, List.length_nil, allOne, zJ, Bool.and_self, Bool.and_true, Nat.beq_eq, Nat.ble_eq, Nat.le_refl, if_true, if_false, Bool.not_false, z3, DS.wrC, Cells.size, Cells.fillFrom, Cells.set, Zj, z6, pp, pv, DS.upd_get_ne, DS.upd_wr, zU, wrN, Option.map_none, YF, Nat.add_zero, Vv, zo, zz, zA, DS.upd_good, ZF, zX, ZW, Nat.add_assoc, Nat.reduceLT, Nat.lt_add_one, Nat.succ_pos, d67, gp, hG, hpl, hld, hH.hw.cut.1, hH.hw.cut.allOne, hfill]
 obtain ⟨S5, hS5⟩ : ∃ S5 : DS, S5 = ((((s.new (.cells (.list [.int .u8 0, .int .u8 0, .int .u8 0, .int .u8 0, .int .u8 0, .int .u8 0, .int .u8 0, .int .u8 0, .int .u8 0, .int .u8 0, .int .u8 0, .int .u8 0, .int .u8 0, .int .u8 0, .int .u8 0, .int .u8 0, .int .u8 0, .int .u8 0, .int .u8 0, .int .u8 0, .int .u8 0, .int .u8 0, .int .u8 0, .int .u8 0, .int .u8 0, .int .u8 0, .int .u8 0, .int .u8 0, .int .u8 0, .int .u8 0, .int .u8 0, .int .u8 0]) false)).new (.cells (.list [.int .u32 0, .int .u32 0, .int .u32 0, .int .u32 0, .int .u32 0, .int .u32 0, .int .u32 0, .int .u32 0]) false)).new (.cells (.list [.int .u8 0, .int .u8 0, .int .u8 0, .int .u8 0, .int .u8 0, .int .u8 0, .int .u8 0, .int .u8 0, .int .u8 0, .int .u8 0, .int .u8 0, .int .u8 0, .int .u8 0, .int .u8 0, .int .u8 0, .int .u8 0, .int .u8 0, .int .u8 0, .int .u8 0, .int .u8 0, .int .u8 0, .int .u8 0, .int .u8 0, .int .u8 0, .int .u8 0, .int .u8 0, .int .u8 0, .int .u8 0, .int .u8 0, .int .u8 0, .int .u8 0, .int .u8 0, .int .u8 0, .int .u8 0, .int .u8 0, .int .u8 0, .int .u8 0, .int .u8 0, .int .u8 0, .int .u8 0, .int .u8 0, .int .u8 0, .int .u8 0, .int .u8 0, .int .u8 0, .int .u8 0, .int .u8 0, .int .u8 0, .int .u8 0, .int .u8 0, .int .u8 0, .int .u8 0, .int .u8 0, .int .u8 0, .int .u8 0, .int .u8 0, .int .u8 0, .int .u8 0, .int .u8 0, .int .u8 0, .int .u8 0, .int .u8 0, .int .u8 0, .int .u8 0]) false)).upd (s.next + 1) (.cells (.list (cut 0 8 H)) false)).upd (s.next + 2) (.cells (.list [.int .u8 0, .int .u8 0, .int .u8 0, .int .u8 0, .int .u8 0, .int .u8 0, .int .u8 0, .int .u8 0, .int .u8 0, .int .u8 0, .int .u8 0, .int .u8 0, .int .u8 0, .int .u8 0, .int .u8 0, .int .u8 0, .int .u8 0, .int .u8 0, .int .u8 0, .int .u8 0, .int .u8 0, .int .u8 0, .int .u8 0, .int .u8 0, .int .u8 0, .int .u8 0, .int .u8 0, .int .u8 0, .int .u8 0, .int .u8 0, .int .u8 0, .int .u8 0, .int .u8 0, .int .u8 0, .int .u8 0, .int .u8 0, .int .u8 0, .int .u8 0, .int .u8 0, .int .u8 0, .int .u8 0, .int .u8 0, .int .u8 0, .int .u8 0, .int .u8 0, .int .u8 0, .int .u8 0, .int .u8 0, .int .u8 0, .int .u8 0, .int .u8 0, .int .u8 0, .int .u8 0, .int .u8 0, .int .u8 0, .int .u8 0, .int .u8 0, .int .u8 0, .int .u8 0, .int .u8 0, .int .u8 0, .int .u8 0, .int .u8 0, .int .u8 0]) false) := ⟨_, rfl⟩
 rw [← hS5]
 rw [show ([.int .u8 0, .int .u8 0, .int .u8 0, .int .u8 0, .int .u8 0, .int .u8 0, .int .u8 0, .int .u8 0, .int .u8 0, .int .u8 0, .int .u8 0, .int .u8 0, .int .u8 0, .int .u8 0, .int .u8 0, .int .u8 0, .int .u8 0, .int .u8 0, .int .u8 0, .int .u8 0, .int .u8 0, .int .u8 0, .int .u8 0, .int .u8 0, .int .u8 0, .int .u8 0, .int .u8 0, .int .u8 0, .int .u8 0, .int .u8 0, .int .u8 0, .int .u8 0, .int .u8 0, .int .u8 0, .int .u8 0, .int .u8 0, .int .u8 0, .int .u8 0, .int .u8 0, .int .u8 0, .int .u8 0, .int .u8 0, .int .u8 0, .int .u8 0, .int .u8 0, .int .u8 0, .int .u8 0, .int .u8 0, .int .u8 0, .int .u8 0, .int .u8 0, .int .u8 0, .int .u8 0, .int .u8 0, .int .u8 0, .int .u8 0, .int .u8 0, .int .u8 0, .int .u8 0, .int .u8 0, .int .u8 0, .int .u8 0, .int .u8 0, .int .u8 0] : List Value) = Za .u8 64 from rfl, show ([.int .u8 0, .int .u8 0, .int .u8 0, .int .u8 0, .int .u8 0, .int .u8 0, .int .u8 0, .int .u8 0, .int .u8 0, .int .u8 0, .int .u8 0, .int .u8 0, .int .u8 0, .int .u8 0, .int .u8 0, .int .u8 0, .int .u8 0, .int .u8 0, .int .u8 0, .int .u8 0, .int .u8 0, .int .u8 0, .int .u8 0, .int .u8 0, .int .u8 0, .int .u8 0, .int .u8 0, .int .u8 0, .int .u8 0, .int .u8 0, .int .u8 0, .int .u8 0] : List Value) = Za .u8 32 from rfl, show ([.int .u32 0, .int .u32 0, .int .u32 0, .int .u32 0, .int .u32 0, .int .u32 0, .int .u32 0, .int .u32 0] : List Value) = Za .u32 8 from rfl] at hS5
 have hn := hH.hn
 have hle := hH.le
 have X5 : Ext [] s S5 := by
  rw [hS5]
  exact (((((Ext.new (F := [])).trans' Ext.new).trans' Ext.new).trans (Ext.upd (F := [s.next + 1]) (.inl (by simp))) (by simp)).trans (Ext.upd (F := [s.next + 2]) (.inl (by simp))) (by simp))
 have hG5 := X5.good hG
 have nS : S5.next = s.next + 3 := by rw [hS5]; simp (maxSteps := 4000000) (maxDischargeDepth := 8) only [Nat.reduceAdd, DS.upd_next, zU, Nat.add_assoc]
 have gD5 : S5.get s.next = some (.cells (.list (Za .u8 32)) false) := by rw [hS5]; simp (maxSteps := 4000000) (maxDischargeDepth := 8) only [z0, Nat.reduceAdd, DS.upd_get_ne, zU, zo, zz, zA, zX, Zu, Nat.add_assoc, Nat.lt_add_one, Nat.succ_pos, hG]
 have gX5 : S5.get (s.next + 1) = some (.cells (.list (cut 0 8 H)) false) := by rw [hS5]; simp (maxSteps := 4000000) (maxDischargeDepth := 8) only [z0, Nat.reduceAdd, DS.upd_get_self, DS.upd_get_ne, Option.map_some, zU, zo, zz, zA, zX, Nat.add_assoc, Nat.lt_add_one, hG]
 have gB5 : S5.get (s.next + 2) = some (.cells (.list (Za .u8 64)) false) := by rw [hS5]; simp (maxSteps := 4000000) (maxDischargeDepth := 8) only [z0, Nat.reduceAdd, DS.upd_get_self, DS.upd_get_ne, Option.map_some, zU, zo, zA, ZW, Nat.add_assoc, Nat.lt_add_one, hG]
 have gp5 := X5.keep gp (by simp)
 have wD5 : S5.wr s.next = true := X5.wrs (hG _ (Nat.le_refl _)).2
 have wX5 : S5.wr (s.next + 1) = true := X5.wrs (hG _ (by omega)).2
 have wB5 : S5.wr (s.next + 2) = true := X5.wrs (hG _ (by omega)).2
 obtain ⟨D, hD⟩ : ∃ D, D = s.next := ⟨_, rfl⟩
 simp only [← hD] at nS gD5 gX5 gB5 wD5 wX5 wB5 hpl ⊢
 clear hS5
 have hbd : Z6 64 64 none (some (.int .i64 (n : Int))) none = some (0, n, 64) := by
  unfold Z6
  simp only [zD, Nat.ble_eq.mpr hle, if_true]
 simp (maxSteps := 4000000) only [zq, zg, zp, zk, zI, zS, zQ, Zl, zt, zl, zf, zd, zc, Nat.reduceEqDiff, z0, zn, List.getElem?_cons_zero, z1, zL, Cells.get, Nat.zero_add, if_true, reduceCtorEq, Option.map_some, Option.map_none, Nat.add_zero, Nat.mul_one, Vv, Kn, hbd, Yh, F4, gp5, hn]
 refine W.mono (VM gB5 wB5 (by rw [(Yd .u8 64).1]; decide) (Cm gp5 (by rw [hH.len]; omega)) (hH.hb.sub hle).cut.one) ?_
 rintro ⟨v6, s6⟩ ⟨h6, X6, g6⟩
 simp only at h6 X6 g6
 subst h6
 have gp6 := X6.keep gp5 (by simp; omega)
 have gX6 := X6.keep gX5 (by simp)
 have wX6 := X6.wrs wX5
 have ha73 := hH.ha
 simp (maxSteps := 4000000) only [zr, zh, ze, zi, zm, zq, zg, zp, zk, zI, zP, YB, zS, zQ, Zl, zF, zt, z7, Zb, zl, zj, zB, zf, zd, zc, Nat.reduceEqDiff, z0, zn, List.getElem?_cons_zero, z1, z4, z5, zL, Cells.get, Nat.zero_add, if_true, reduceCtorEq, gp6, hn, ha73]
 have g6' : s6.get (D + 2) = some (.cells (.list (CK H n)) false) := g6
 have hBU := Mw hH.hb hle
 have hXU := hH.hw.cut
 have hG6 := X6.good hG5
 have gD6 := X6.keep gD5 (by simp)
 refine W.mono (CV hB hG6 gX6 wX6 g6' (hXU.part (Nat.le_refl _)) (hBU.part (Nat.le_refl _))) ?_
 rintro ⟨v7, s7⟩ ⟨h7, X7, g7⟩
 simp only at h7 X7 g7
 subst h7
 have hG7 := X7.good hG6
 have hcnt := hH.cnt
 obtain ⟨w, hw⟩ : ∃ w, w = Xo (cut 0 8 H) (CK H n) 0 (zE .u64 (nAt H 73 + zE .u64 (n : Int))) true := ⟨_, rfl⟩
 have hdig : FX H = Q7 w 8 := by unfold FX; rw [hcnt, hw]
 have hwU : UA .u32 0 8 w := by rw [hw]; exact VA (hXU.part (Nat.le_refl _))
 have hwl : w.length = 8 := by rw [hw, Jy]; exact hXU.1
 have hwW : U .u32 8 w := hwU.all hwl
 rw [← hw] at g7
 have hld7 : ∀ z, ldA 8 (.pointer (some ⟨D + 1, 0, none⟩)) (s7.new z) = some (.agg ⟨w⟩) := fun z => by
  have := DS.get_lt' g7
  unfold ldA DS.read
  simp only [DS.new_get_lt this, g7]
  rw [ZJ _ _ _ (by rw [hwl]; decide)]
  simp only [List.drop_zero]
  rw [List.take_of_length_le (by rw [hwl]; exact Nat.le_refl _)]
 simp (maxSteps := 4000000) (maxDischargeDepth := 8) only [zr, zh, zN, ze, zi, zm, zq, zg, zp, zk, zI, Zi, zl, zj, zf, zd, zc, z0, z1, YF, zX, Nat.reduceLT, Nat.lt_add_one, hld7, hG7]
 obtain ⟨S8, hS8⟩ : ∃ S8 : DS, S8 = s7.new (.cells (.list [.int .u8 0, .int .u8 0, .int .u8 0, .int .u8 0, .int .u8 0, .int .u8 0, .int .u8 0, .int .u8 0, .int .u8 0, .int .u8 0, .int .u8 0, .int .u8 0, .int .u8 0, .int .u8 0, .int .u8 0, .int .u8 0, .int .u8 0, .int .u8 0, .int .u8 0, .int .u8 0, .int .u8 0, .int .u8 0, .int .u8 0, .int .u8 0, .int .u8 0, .int .u8 0, .int .u8 0, .int .u8 0, .int .u8 0, .int .u8 0, .int .u8 0, .int .u8 0]) false) := ⟨_, rfl⟩
 rw [← hS8]
 rw [show ([.int .u8 0, .int .u8 0, .int .u8 0, .int .u8 0, .int .u8 0, .int .u8 0, .int .u8 0, .int .u8 0, .int .u8 0, .int .u8 0, .int .u8 0, .int .u8 0, .int .u8 0, .int .u8 0, .int .u8 0, .int .u8 0, .int .u8 0, .int .u8 0, .int .u8 0, .int .u8 0, .int .u8 0, .int .u8 0, .int .u8 0, .int .u8 0, .int .u8 0, .int .u8 0, .int .u8 0, .int .u8 0, .int .u8 0, .int .u8 0, .int .u8 0, .int .u8 0] : List Value) = Za .u8 32 from rfl] at hS8
 have X8 : Ext [] s7 S8 := by rw [hS8]; exact Ext.new
 have gO8 : S8.get s7.next = some (.cells (.list (Za .u8 32)) false) := by rw [hS8]; simp (maxSteps := 4000000) (maxDischargeDepth := 8) only [zo, hG7]
 have wO8 : S8.wr s7.next = true := X8.wrs (hG7 _ (Nat.le_refl _)).2
 have n7 : D + 3 ≤ s7.next := by have := X7.le; have := X6.le; omega
 have gD8 := X8.keep (X7.keep gD6 (by simp)) (by simp)
 have wD8 := X8.wrs (X7.wrs (X6.wrs wD5))
 clear hS8
 refine ZP (OI S8 s7.next D w) 8 (by omega) ⟨0, rfl, by omega, rfl, ?_, .refl, gO8⟩ ?_
 · simp (maxSteps := 4000000) only [zd, zc, Nat.reduceEqDiff, z0, Bool.true_and, true_and]
   rfl
 rintro m ⟨tt, s9, ds⟩ hm ⟨j, rfl, hj, hds, ⟨g2, g5, g38, g39⟩, X9, g9⟩
 simp only at hds g2 g5 g38 g39 X9 g9
 subst hds
 have w9 := X9.wrs wO8
 by_cases c1 : j < 8
 · have e1 : (j : Int) < 8 := by omega
   have w1 : zE .i64 ((j : Int) + 1) = ((j + 1 : Nat) : Int) := by rw [zR (by omega) (by omega)]; omega
   have w4 : zE .i64 (4 * (j : Int)) = ((4 * j : Nat) : Int) := by rw [zR (by omega) (by omega)]; omega
   have wa : zE .i64 (((4 * j : Nat) : Int) + 1) = ((4 * j + 1 : Nat) : Int) := by rw [zR (by omega) (by omega)]; omega
   have wb : zE .i64 (((4 * j : Nat) : Int) + 2) = ((4 * j + 2 : Nat) : Int) := by rw [zR (by omega) (by omega)]; omega
   have wc : zE .i64 (((4 * j : Nat) : Int) + 3) = ((4 * j + 3 : Nat) : Int) := by rw [zR (by omega) (by omega)]; omega
   have hwj := hwW.at c1
   have l0 : 4 * j < 32 := by omega
   have l1 : 4 * j + 1 < 32 := by omega
   have l2 : 4 * j + 2 < 32 := by omega
   have l3 : 4 * j + 3 < 32 := by omega
   have k0 : 4 * j ≤ 31 := by omega
   have k1 : 4 * j ≤ 30 := by omega
   have k2 : 4 * j ≤ 29 := by omega
   have k3 : 4 * j ≤ 28 := by omega
   have hpo : partOf none w j = some (.int .u32 (nAt w j)) := by unfold partOf; exact hwj
   simp (maxSteps := 4000000) only [zr, zh, zx, zN, zM, ze, zK, zi, zW, zm, zq, zC, zg, zp, zY, zk, zI, zP, YB, Zz, zt, z7, Zb, zl, zj, zf, zy, zd, zc, Nat.reduceEqDiff, z0, z1, Nat.zero_add, Zh, zZ, List.length_cons, List.length_nil, allOne, zJ, Bool.and_self, Bool.and_true, Nat.beq_eq, Nat.ble_eq, Nat.blt_eq, Nat.reduceLeDiff, if_true, DS.wrC, Cells.size, Cells.fillFrom, Cells.set, DS.upd_get_self, DS.upd_wr, Option.map_some, zD, Nat.mul_one, decide_true, YN, N0, g2, g5, g38, g39, e1, w1, w4, wa, wb, wc, hwj, hwl, c1, Mc, Nz, Ny, l0, l1, l2, l3, g9, w9, ZK, (GZ w j).1, hpo, k0, k1, k2, k3]
   refine ⟨8 - (j + 1), by omega, ⟨j + 1, rfl, by omega, rfl, by simp (maxSteps := 4000000) only [zd, zc, Nat.reduceEqDiff, z0, Bool.and_self, and_self, g2, g5, g38, g39], X9.trans' ((((Ext.upd (.inl (by simp))).trans' (Ext.upd (.inl (by simp)))).trans' (Ext.upd (.inl (by simp)))).trans' (Ext.upd (.inl (by simp)))), ?_⟩⟩
   simp (maxSteps := 4000000) only [DS.upd_get_self, Option.map_some, g9]
   rfl
 · obtain rfl : j = 8 := by omega
   have e1 : ¬ ((8 : Nat) : Int) < 8 := by omega
   have hO := GZ w 8
   have gD9 := X9.keep gD8 (by simp; omega)
   have wD9 := X9.wrs wD8
   have hld9 : ldA 32 (.pointer (some ⟨s7.next, 0, none⟩)) s9 = some (.agg ⟨Q7 w 8⟩) := by
    unfold ldA DS.read
    simp only [g9]
    rw [ZJ _ _ _ (by rw [hO.1]; decide)]
    simp only [List.drop_zero]
    rw [List.take_of_length_le (by rw [hO.1]; exact Nat.le_refl _)]
   have hfill9 : (Cells.list (Za .u8 32)).fillFrom 0 (Q7 w 8) = .list (Q7 w 8) := by
    rw [Yt _ _ _ (by rw [hO.1]; decide), hO.1]
    simp [Za]
   have hrd : (s9.upd D (.cells (.list (Q7 w 8)) false)).read D 0 32 = some (Q7 w 8) := by
    unfold DS.read
    simp only [DS.upd_get_self, gD9, Option.map_some]
    rw [ZJ _ _ _ (by rw [hO.1]; decide)]
    simp only [List.drop_zero]
    rw [List.take_of_length_le (by rw [hO.1]; exact Nat.le_refl _)]
   simp (maxSteps := 4000000) (maxDischargeDepth := 8) only [zr, zh, zx, zV, ZA, ze, Ze, Zg, zi, Zf, zm, zq, zu, zg, zp, zY, zk, zP, Zz, z7, Zb, Zo, zH, zl, zj, zf, zy, zd, zc, z0, z1, zw, zG, Nat.zero_add, Zh, zO, Bool.and_true, Nat.beq_eq, Nat.ble_eq, Nat.le_refl, if_true, DS.wrC, Cells.size, YF, decide_false, zX, Nat.reduceLT, g2, g5, g38, g39, e1, hld9, gD9, wD9, hO.1, hO.allOne, hfill9, (Yd .u8 32).1, hrd]
   refine hQ _ ⟨by rw [hdig], ?_⟩
   have a1 : Ext [] s s6 := X5.trans X6 (by simp; omega)
   have a2 : Ext [] s s7 := a1.trans X7 (by simp; omega)
   have a3 : Ext [] s s9 := (a2.trans' X8).trans X9 (by simp; omega)
   exact a3.trans (Ext.upd (F := [D]) (.inl (by simp))) (by simp; omega)
theorem Nu {b : Nat} {ps : List (Value × List Int)} (hG : s.Good) (gb : s.get b = some (.cells (.list (ps.map Prod.fst)) false)) (hps : ∀ q, q ∈ ps → SlR s q.1 q.2) (hl : ps.length < E.lf) (h63 : ps.length ≤ 1000000) (hlr : ∀ q, q ∈ ps → q.2.length < E.lf) :
 W (dcall E (d + 5) (.func (.func 44) #[] #[]) [.slice (some ⟨b, 0, none⟩) ps.length ps.length] s) fun r => r.1 = .agg ⟨JC (ps.map Prod.snd)⟩ ∧ Ext [] s r.2 := by
 refine Zw fun Q hQ => ?_
 rw [zT hB.isum hB.fsum rfl]
 have hbl := DS.get_lt' gb
 simp (maxSteps := 4000000) (maxDischargeDepth := 8) only [zr, zh, ze, zi, zm, zq, zg, Zi, zF, zB, zf, z5, pp, pv, d44, hG]
 obtain ⟨S1, hS1⟩ : ∃ S1 : DS, S1 = s.new (.cells (.list [.int .u8 0, .int .u8 0, .int .u8 0, .int .u8 0, .int .u8 0, .int .u8 0, .int .u8 0, .int .u8 0, .int .u8 0, .int .u8 0, .int .u8 0, .int .u8 0, .int .u8 0, .int .u8 0, .int .u8 0, .int .u8 0, .int .u8 0, .int .u8 0, .int .u8 0, .int .u8 0, .int .u8 0, .int .u8 0, .int .u8 0, .int .u8 0, .int .u8 0, .int .u8 0, .int .u8 0, .int .u8 0, .int .u8 0, .int .u8 0, .int .u8 0, .int .u8 0]) false) := ⟨_, rfl⟩
 rw [← hS1]
 rw [show ([.int .u8 0, .int .u8 0, .int .u8 0, .int .u8 0, .int .u8 0, .int .u8 0, .int .u8 0, .int .u8 0, .int .u8 0, .int .u8 0, .int .u8 0, .int .u8 0, .int .u8 0, .int .u8 0, .int .u8 0, .int .u8 0, .int .u8 0, .int .u8 0, .int .u8 0, .int .u8 0, .int .u8 0, .int .u8 0, .int .u8 0, .int .u8 0, .int .u8 0, .int .u8 0, .int .u8 0, .int .u8 0, .int .u8 0, .int .u8 0, .int .u8 0, .int .u8 0] : List Value) = Za .u8 32 from rfl] at hS1
 have X1 : Ext [] s S1 := by rw [hS1]; exact Ext.new
 have hG1 := X1.good hG
 have gD1 : S1.get s.next = some (.cells (.list (Za .u8 32)) false) := by rw [hS1]; simp (maxSteps := 4000000) (maxDischargeDepth := 8) only [zo, hG]
 have wD1 : S1.wr s.next = true := X1.wrs (hG _ (Nat.le_refl _)).2
 have n1 : S1.next = s.next + 1 := by rw [hS1]; rfl
 obtain ⟨D, hD⟩ : ∃ D, D = s.next := ⟨_, rfl⟩
 simp only [← hD] at gD1 wD1 n1 hbl ⊢
 clear hS1
 refine W.mono (NL hB hG1) ?_
 rintro ⟨v2, s2⟩ ⟨p, hv2, hp, X2, g2, w2⟩
 simp only at hv2 X2 g2 w2
 subst hv2
 have XA : Ext [] s s2 := X1.trans' X2
 have hG2 := X2.good hG1
 have gb2 := XA.keep gb (by simp)
 have gD2 := X2.keep gD1 (by simp)
 have wD2 := X2.wrs wD1
 simp (maxSteps := 4000000) only [zr, zh, zN, ze, zi, zm, zq, zg, zp, zk, zI, Zk, zt, zl, zj, zf, zd, zc, z0, zn, List.getElem?_cons_zero, z1, reduceCtorEq]
 refine ZP (SI s2 p D b ps) ps.length hl ⟨0, rfl, Nat.zero_le _, rfl, ?_, .refl, g2, 0, No⟩ ?_
 · simp (maxSteps := 4000000) only [zd, zc, Nat.reduceEqDiff, z0, zn, List.getElem?_cons_zero, Bool.true_and, true_and, reduceCtorEq]
   rfl
 rintro m ⟨tt, s3, ds⟩ hm ⟨j, rfl, hj, hds, ⟨g0, g2', g3, g7, g8, g9⟩, X3, gp3, n3, hH3⟩
 simp only at hds g0 g2' g3 g7 g8 g9 X3 gp3
 subst hds
 have hG3 := X3.good hG2
 by_cases c1 : j < ps.length
 · have e1 : (j : Int) < (ps.length : Int) := by omega
   have w1 : zE .i64 ((j : Int) + 1) = ((j + 1 : Nat) : Int) := by
    have := hG2
    exact zR (by omega) (by omega)
   have gb3 := X3.keep gb2 (by simp; omega)
   have hgj : getN (ps.map Prod.fst) j = some (ps[j]).1 := by rw [Zs, List.getElem?_map, List.getElem?_eq_getElem c1]; rfl
   simp (maxSteps := 4000000) only [zr, zh, zx, zN, zM, ze, zi, zm, zq, zC, zg, zp, zk, zI, zP, Yy, Zl, zF, zt, z7, Zb, zl, zB, zf, zd, zc, Nat.reduceEqDiff, z0, z1, z4, z5, zL, Cells.get, Nat.zero_add, Nat.blt_eq, if_true, zD, Nat.mul_one, decide_true, g0, g2', g3, g7, g8, g9, e1, w1, gb3, hgj, c1]
   have hmem : ps[j] ∈ ps := List.getElem_mem c1
   have hr := hps _ hmem
   have hr3 := (hr.keep XA (by simp)).keep X3 (fun k hk => by have := hr.lt k hk; have := XA.le; have := X1.le; simp; omega)
   have hpb : p ∉ blk ps[j].1 := fun hk => by have := hr.lt p hk; have := X1.le; omega
   refine W.mono (NZ hB hG3 gp3 (X3.wrs w2) hH3 hr3 hpb (Nat.le_refl _) (hlr _ hmem)) ?_
   rintro ⟨v4, s4⟩ ⟨X4, g4, hH4⟩
   simp only at X4 g4
   have hsn : (ps.map Prod.snd).take (j + 1) = (ps.map Prod.snd).take j ++ [ps[j].2] := by
    rw [List.take_add_one, List.getElem?_map, List.getElem?_eq_getElem c1]; rfl
   simp (maxSteps := 4000000) only [zh, ze, zK, zi, zW, zm, zq, zg, zp, zk, zI, zP, z7, Zb, zl, zj, zf, zd, zc, Nat.reduceEqDiff, z0, z1, if_true, g0, g2', g3, g7, g8, g9, w1]
   refine ⟨ps.length - (j + 1), by omega, ⟨j + 1, rfl, by omega, rfl, by simp (maxSteps := 4000000) only [zd, zc, Nat.reduceEqDiff, z0, Bool.and_self, and_self, reduceCtorEq, g0, g2', g3, g7, g8, g9], X3.trans' X4, ?_, ?_⟩⟩
   · rw [hsn, Fp]; exact g4
   · rw [hsn, Fp]; exact hH4
 · obtain rfl : j = ps.length := by omega
   have e1 : ¬ ((ps.length : Nat) : Int) < ((ps.length : Nat) : Int) := by omega
   simp (maxSteps := 4000000) only [zr, zh, zx, ZA, ze, Ze, Zg, zi, Zf, zm, zq, zu, zg, zp, zk, zI, zP, zF, z7, Zb, zl, zB, zf, zd, zc, Nat.reduceEqDiff, z0, z1, z4, z5, if_true, decide_false, g0, g2', g3, g7, g8, g9, e1]
   refine W.mono (NT hB hG3 gp3 hH3) ?_
   rintro ⟨v5, s5⟩ ⟨hv5, X5⟩
   simp only at hv5 X5
   subst hv5
   have htk : (ps.map Prod.snd).take ps.length = ps.map Prod.snd := List.take_of_length_le (by rw [List.length_map]; exact Nat.le_refl _)
   rw [htk]
   have hO := GB (Cb (ps.map Prod.snd))
   have gD5 := X5.keep (X3.keep gD2 (by simp; omega)) (by simp)
   have wD5 := X5.wrs (X3.wrs wD2)
   obtain ⟨o, ho⟩ : ∃ o, o = FX (Cb (ps.map Prod.snd)) := ⟨_, rfl⟩
   rw [← ho] at hO ⊢
   have hfill9 : (Cells.list (Za .u8 32)).fillFrom 0 o = .list o := by
    rw [Yt _ _ _ (by rw [hO.1]; decide), hO.1]
    simp [Za]
   have hrd : (s5.upd D (.cells (.list o) false)).read D 0 32 = some o := by
    unfold DS.read
    simp only [DS.upd_get_self, gD5, Option.map_some]
    rw [ZJ _ _ _ (by rw [hO.1]; decide)]
    simp only [List.drop_zero]
    rw [List.take_of_length_le (by rw [hO.1]; exact Nat.le_refl _)]
   simp (maxSteps := 4000000) (maxDischargeDepth := 8) only [zV, ze, zi, zm, zq, zg, zY, zk, Zz, Zo, zH, zl, zf, zy, zd, zc, z0, z1, zw, zG, Nat.zero_add, Zh, zO, Bool.and_true, Nat.beq_eq, Nat.ble_eq, Nat.le_refl, if_true, DS.wrC, Cells.size, zX, Nat.reduceLT, g0, g2', g3, gD5, wD5, hO.1, hO.allOne, hfill9, (Yd .u8 32).1, hrd]
   refine hQ _ ⟨by rw [ho]; rfl, ?_⟩
   exact ((XA.trans X3 (by have := X1.le; simp; omega)).trans' X5).trans (Ext.upd (F := [D]) (.inl (by simp))) (by simp; omega)
end
end Go.Dx.StA
set_option maxHeartbeats 4000000
namespace Go.Dx.StA
open Go Go.Dx Go.Dx.Search Go.Dx.St Go.Proofs.Ytnmajohhfcgddaa
section
variable {E : Env} (hC : Ch E) (hP : Fu E) (hF : Fns E) (hI : Its E) (hB : Ni E) {s : DS} {d : Nat} {p : Nat} {kv vv : Value} {L : List Ent} {room : Int}
theorem Q6 (room : Int) (L : List Ent) : (XJ room L).length = 4 + L.length * 16 := by
 have hcat : ∀ M : List Ent, (Qh Jw M).length = M.length * 16 := fun M => by
  induction M with
  | nil => rfl
  | cons a M ih => unfold Qh at ih ⊢; rw [List.flatMap_cons, List.length_append, ih]; simp [Jw, Z3]; omega
 show (leB room 2 ++ (leB (L.length : Int) 2 ++ Qh Jw L)).length = _
 rw [List.length_append, List.length_append, Z3, Z3, hcat]
 omega
include hC hP hF hI hB
theorem Vb (c : Xg s p kv vv L room) (hG : s.Good) (hroom : 0 ≤ room ∧ room ≤ 65535) (hl : L.length ≤ 4096) (hlf : 4 + L.length * 16 < E.lf) (fDg : E.fn 20 = some d20) (iDg : E.intr 20 = none) :
 W (dcall E (d + 13) (.func (.func 20) #[] #[]) [.pointer (some ⟨p, 0, none⟩)] s) fun r => r.1 = .agg ⟨JC [XJ room L]⟩ ∧ Ext [] s r.2 := by
 refine Zw fun Q hQ => ?_
 rw [zT iDg fDg rfl]
 simp (maxSteps := 4000000) (maxDischargeDepth := 8) only [zr, zh, zx, zM, ze, zi, zm, zq, zu, zg, ZD, zk, zI, Z5, Zi, zF, Zv, zl, zj, zB, zf, zd, zc, z0, zn, List.getElem?_cons_zero, z1, z4, z5, if_false, Bool.not_false, z3, pp, pv, zX, Nat.succ_pos, d20, hG]
 obtain ⟨S1, hS1⟩ : ∃ S1 : DS, S1 = s.new (.cells (.list [.int .u8 0, .int .u8 0, .int .u8 0, .int .u8 0, .int .u8 0, .int .u8 0, .int .u8 0, .int .u8 0, .int .u8 0, .int .u8 0, .int .u8 0, .int .u8 0, .int .u8 0, .int .u8 0, .int .u8 0, .int .u8 0, .int .u8 0, .int .u8 0, .int .u8 0, .int .u8 0, .int .u8 0, .int .u8 0, .int .u8 0, .int .u8 0, .int .u8 0, .int .u8 0, .int .u8 0, .int .u8 0, .int .u8 0, .int .u8 0, .int .u8 0, .int .u8 0]) false) := ⟨_, rfl⟩
 rw [← hS1]
 rw [show ([.int .u8 0, .int .u8 0, .int .u8 0, .int .u8 0, .int .u8 0, .int .u8 0, .int .u8 0, .int .u8 0, .int .u8 0, .int .u8 0, .int .u8 0, .int .u8 0, .int .u8 0, .int .u8 0, .int .u8 0, .int .u8 0, .int .u8 0, .int .u8 0, .int .u8 0, .int .u8 0, .int .u8 0, .int .u8 0, .int .u8 0, .int .u8 0, .int .u8 0, .int .u8 0, .int .u8 0, .int .u8 0, .int .u8 0, .int .u8 0, .int .u8 0, .int .u8 0] : List Value) = Za .u8 32 from rfl] at hS1
 have X1 : Ext [] s S1 := by rw [hS1]; exact Ext.new
 have hG1 := X1.good hG
 have gD1 : S1.get s.next = some (.cells (.list (Za .u8 32)) false) := by rw [hS1]; simp (maxSteps := 4000000) (maxDischargeDepth := 8) only [zo, hG]
 have wD1 : S1.wr s.next = true := X1.wrs (hG _ (Nat.le_refl _)).2
 clear hS1
 refine W.mono (VP hC hP hF hI (c.keep X1 (by simp)) hG1 hroom hl) ?_
 rintro ⟨v2, s2⟩ ⟨hv, hsh, hb, X2⟩
 simp only at hv hsh hb X2
 have hR := SlR.of hv hsh
 have hG2 := X2.good hG1
 have gD2 := X2.keep gD1 (by simp)
 have wD2 := X2.wrs wD1
 obtain ⟨a, hv2, _⟩ := hsh
 have hcell : v2.cells.toList = [v2] := by rw [hv2]; rfl
 simp (maxSteps := 4000000) (maxDischargeDepth := 8) only [zq, zg, ZR, zk, zF, zl, zB, zf, zd, z1, z4, z5, Nat.zero_add, List.length_cons, List.length_nil, Bool.and_self, Bool.and_eq_true, Nat.beq_eq, Nat.ble_eq, Nat.reduceLeDiff, Nat.le_refl, and_self, if_true, z6, List.take_zero, List.drop_succ_cons, List.nil_append, List.drop_nil, List.append_nil, Yk, repeatZ, ZR, Nat.mul_one, hG2, hcell]
 have gP : (s2.new (.cells (.list [v2]) false)).get s2.next = some (.cells (.list ([(v2, XJ room L)].map Prod.fst)) false) := DS.new_get_self hG2
 have hG3 : (s2.new (.cells (.list [v2]) false)).Good := DS.new_good hG2
 have hpl := Q6 room L
 refine W.mono (Nu hB (d := d + 7) (b := s2.next) (ps := [(v2, XJ room L)]) hG3 gP ?_ ?_ ?_ ?_) ?_
 · intro q hq
   obtain rfl := List.mem_singleton.1 hq
   exact hR.keep (Ext.new (F := [])) (by simp)
 · show 1 < E.lf
   omega
 · show 1 ≤ 1000000
   omega
 · intro q hq
   obtain rfl := List.mem_singleton.1 hq
   show (XJ room L).length < E.lf
   omega
 rintro ⟨v3, s3⟩ ⟨h3, X3⟩
 simp only at h3 X3
 subst h3
 have hO : U .u8 32 (JC [XJ room L]) := GB _
 have X23 : Ext [] s2 s3 := Ext.new.trans' X3
 have gD3 := X23.keep gD2 (by simp)
 have wD3 := X23.wrs wD2
 show RK _ _ _ _ _ _ (.agg ⟨JC [XJ room L]⟩, s3)
 obtain ⟨o, ho⟩ : ∃ o, o = JC [XJ room L] := ⟨_, rfl⟩
 rw [← ho] at hO ⊢
 have hfill9 : (Cells.list (Za .u8 32)).fillFrom 0 o = .list o := by
  rw [Yt _ _ _ (by rw [hO.1]; decide), hO.1]
  simp [Za]
 have hrd : (s3.upd s.next (.cells (.list o) false)).read s.next 0 32 = some o := by
  unfold DS.read
  simp only [DS.upd_get_self, gD3, Option.map_some]
  rw [ZJ _ _ _ (by rw [hO.1]; decide)]
  simp only [List.drop_zero]
  rw [List.take_of_length_le (by rw [hO.1]; exact Nat.le_refl _)]
 simp (maxSteps := 4000000) (maxDischargeDepth := 8) only [zV, ze, zi, zm, zq, zg, zY, zk, Zz, Zo, zH, zl, zf, zy, zd, zc, z0, z1, zw, zG, Nat.zero_add, Zh, zO, Bool.and_true, Nat.beq_eq, Nat.ble_eq, Nat.le_refl, if_true, DS.wrC, Cells.size, zX, Nat.reduceLT, Nat.lt_add_one, gD3, wD3, hO.1, hO.allOne, hfill9, (Yd .u8 32).1, hrd]
 refine hQ _ ⟨by rw [ho], ?_⟩
 exact ((X1.trans' X2).trans' X23).trans (Ext.upd (F := [s.next]) (.inl (by simp))) (by simp)
end
end Go.Dx.StA
