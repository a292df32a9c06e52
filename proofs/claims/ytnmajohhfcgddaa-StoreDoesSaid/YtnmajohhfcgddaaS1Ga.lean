/- A part. -/
import Derived.Test.YtnmajohhfcgddaaS1Fa
import Derived.Test.YtnmajohhfcgddaaDxPl
import Derived.Test.YtnmajohhfcgddaaDxSorted
import Derived.Test.YtnmajohhfcgddaaDxFv
set_option linter.unusedVariables false
set_option linter.unusedSimpArgs false
set_option linter.unusedSectionVars false
set_option maxRecDepth 100000
set_option maxHeartbeats 4000000
namespace Go.Dx.StA
open Go Go.Dx Go.Dx.Search Go.Dx.St Go.Proofs.Ytnmajohhfcgddaa
theorem FU {L : List Ent} {i : Nat} {x : Ent} (h : L[i]? = some x) : (ZM L)[i]? = some [.int .i64 x.1, .int .i64 x.2] := by simp [ZM, h]
theorem WV {L : List Ent} {i : Nat} {x : Ent} (h : L[i]? = some x) : getN (ZM L).flatten (i * 2) = some (.int .i64 x.1) := by
 have := XO (j := 0) (Ye L).len (FU h) rfl
 rwa [Nat.add_zero] at this
theorem Qt {L : List Ent} {i : Nat} {x : Ent} (h : L[i]? = some x) : getN (ZM L).flatten (i * 2 + 1) = some (.int .i64 x.2) := XO (j := 1) (Ye L).len (FU h) rfl
theorem F3 {s : DS} {sz bytes : Nat} {vx vy : Value} {lx ly : List (List Value)} {nt : List Xf} {haz : List Nat} (hx : SlX s sz vx lx) (hy : SlV s sz vy ly) (ox : ZI sz lx) (oy : ZI sz ly) (hG : s.Good) (hn : lx.length + ly.length ≤ 1099511627776) (hb : (lx.length + ly.length) * bytes ≤ 1099511627776)
 (h1 : ∀ k, k ∈ blk vx → hidden nt haz k = false ∧ shielded nt haz k = false) (h2 : ∀ k, k ∈ blk vy → hidden nt haz k = false) (h3 : ∀ k, s.next ≤ k → hidden nt haz k = false ∧ shielded nt haz k = false) :
 W (J3 bytes sz vx vy (mask s nt haz)) fun r => SlX (unmask s r.2) sz r.1 (lx ++ ly) ∧ Ext (blk vx) s (unmask s r.2) ∧ (∀ k, k ∈ blk r.1 → k ∈ blk vx ∨ s.next ≤ k) ∧ r.2.next = (unmask s r.2).next := by
 obtain ⟨⟨v, s1⟩, e, x, X, b⟩ := WJ (bytes := bytes) (hx.of (s' := mask s nt haz) fun k hk => ⟨YC (h1 k hk).1, fun hw => QN hw (h1 k hk).1 (h1 k hk).2⟩) (hy.of (s' := mask s nt haz) fun k hk => YC (h2 k hk)) ox oy (Wu hG h3) hn hb
 simp only at x X b
 have df : Zr (mask s nt haz) s1 := Vc e
 refine ⟨(v, s1), e, x.of fun k hk => ?_, Ext.unmask' X df, b, rfl⟩
 have hh : hidden nt haz k = false := by
  rcases b k hk with h | h
  · exact (h1 k h).1
  · exact (h3 k h).1
 refine ⟨WP hh X, fun hw => ?_⟩
 rw [X.wr] at hw
 simp [mask] at hw
 exact hw.1.1
theorem Rt {L : List Ent} {i : Nat} {k v w : Int} (h : L[i]? = some (k, w)) : Zj (ZM L).flatten (i * 2 + 1) (.int .i64 v) = (ZM (L.set i (k, v))).flatten := by
 induction L generalizing i with
 | nil => simp at h
 | cons a L ih =>
  cases i with
  | zero =>
   simp at h
   subst h
   rfl
  | succ i =>
   have := ih (i := i) (by simpa using h)
   show Zj (.int .i64 a.1 :: .int .i64 a.2 :: (ZM L).flatten) ((i + 1) * 2 + 1) _ = .int .i64 a.1 :: .int .i64 a.2 :: (ZM (L.set i (k, v))).flatten
   rw [show (i + 1) * 2 + 1 = (i * 2 + 1) + 1 + 1 by omega, ← this]
   rfl
structure Tz (E : Env) : Prop where
 fFind : E.fn 47 = some d47
 iFind : E.intr 47 = none
 fNew : E.fn 25 = some d25
 iNew : E.intr 25 = none
 fPut : E.fn 26 = some d26
 iPut : E.intr 26 = none
structure Jh (s : DS) (q : Nat) (v : Value) (L : List Ent) (room : Int) : Prop where
 gq : s.get q = some (.cells (.list [v, .int .i64 room]) false)
 wq : s.wr q = true
 sl : SlX s 2 v (ZM L)
 ne : q ∉ blk v
 so : XZ L
section
variable {s s' : DS} {q : Nat} {v : Value} {L : List Ent} {room : Int} {F : List Nat}
theorem Jh.keep (c : Jh s q v L room) (e : Ext F s s') (hq : q ∉ F) (hb : ∀ k, k ∈ blk v → k ∉ F) : Jh s' q v L room :=
 ⟨e.keep c.gq hq, e.wrs c.wq, c.sl.keep e hb, c.ne, c.so⟩
structure N5 (s : DS) (q : Nat) (L : List Ent) (k : Int) (n : Nat) (x : St) : Prop where
 ex : ∃ i : Nat, n = L.length - i ∧ i ≤ L.length ∧ x.s = s ∧ x.defers = [] ∧ (x.t.get 0 = some (.pointer (some ⟨q, 0, none⟩)) ∧ x.t.get 1 = some (.int .i64 k) ∧ x.t.get 6 = some (.int .i64 (i : Int))) ∧ ∀ j y, j < i → L[j]? = some y → y.1 < k
variable {E : Env} (hR : Tz E) {d : Nat}
include hR
theorem Ky (hlf : L.length < E.lf) (hl : L.length < 1000000) (c : Jh s q v L room) (k : Int) : dcall E (d + 1) (.func (.func 47) #[] #[]) [.pointer (some ⟨q, 0, none⟩), .int .i64 k] s = some (.tuple ⟨[.int .i64 (pos k L : Int), .bool (YU k L)]⟩, s) := by
 have gq := c.gq
 obtain ⟨a, hv⟩ := c.sl.shape
 rw [ZY] at hv
 rw [← Jg, zT hR.iFind hR.fFind rfl]
 simp (maxSteps := 4000000) only [zr, zh, zN, ze, zi, zm, zq, zg, zI, zj, zf, pp, pv, pw, pg, d47]
 refine ZP (N5 s q L k) L.length hlf ⟨0, rfl, Nat.zero_le _, rfl, rfl, ?_, fun j y hj => absurd hj (Nat.not_lt_zero _)⟩ ?_
 · simp (maxSteps := 4000000) only [zd, zc, Nat.reduceEqDiff, z0, zn, List.getElem?_cons_zero, List.getElem?_cons_succ, Bool.true_and, true_and, reduceCtorEq]
   rfl
 rintro n ⟨t, s2, ds⟩ hn ⟨i, rfl, hi, hs, hds, ⟨g0, g1, g6⟩, hno⟩
 simp only at hs hds g0 g1 g6
 subst hs hds
 by_cases c1 : i < L.length
 · have hx : L[i]? = some L[i] := List.getElem?_eq_getElem c1
   generalize L[i] = x at hx
   have e1 : (i : Int) < (L.length : Int) := by omega
   obtain ⟨b, sp, hv', _, hb, _⟩ := c.sl.at (fun e => by have := ZY L; rw [e] at this; simp at this; omega)
   rw [ZY] at hv'
   rw [hv'] at gq
   have w2 : zE .i64 ((i : Int) + 1) = ((i + 1 : Nat) : Int) := by rw [zR (by omega) (by omega)]; omega
   by_cases c2 : x.1 < k
   · simp (maxSteps := 4000000) only [zr, zh, zx, zN, zM, ze, zK, zi, zW, zm, zq, ZH, ZB, zC, zg, zp, zk, zI, Zd, zP, zS, zQ, Yy, Zk, Zl, zt, z7, Zb, zl, zj, zf, zd, zc, Nat.reduceEqDiff, z0, z1, zL, Cells.get, getN, Nat.zero_add, Nat.blt_eq, if_true, reduceCtorEq, Nat.add_zero, zD, decide_true, g0, g1, g6, gq, hb, e1, c1, WV hx, c2, w2]
     refine ⟨L.length - (i + 1), by omega, ⟨i + 1, rfl, by omega, rfl, rfl, by simp (maxSteps := 4000000) only [zd, zc, Nat.reduceEqDiff, z0, Bool.and_self, and_self, reduceCtorEq, g0, g1], fun j y hj hy => ?_⟩⟩
     by_cases e : j = i
     · subst e; rw [hx] at hy; cases hy; exact c2
     · exact hno j y (by omega) hy
   · have hpos : pos k L = i := FI c.so (by omega) hno fun y hy => by rw [hx] at hy; cases hy; exact c2
     have hat : YU k L = decide (x.1 = k) := by unfold YU; rw [hpos, hx]
     rw [hat, hpos]
     simp (maxSteps := 4000000) only [zr, zh, zx, zV, ZA, ze, Ze, Zg, zi, Zf, zm, zq, ZH, ZB, zu, zg, zp, zk, zI, Zd, zP, zS, zQ, Yy, Zk, Zl, zt, z7, Zb, zH, zl, zj, zf, zd, zc, Nat.reduceEqDiff, z0, z1, zw, zG, zL, Cells.get, getN, Nat.zero_add, Nat.blt_eq, if_true, reduceCtorEq, Nat.add_zero, zD, decide_true, decide_false, g0, g1, g6, gq, hb, e1, c1, WV hx, c2]
 · have hi' : i = L.length := by omega
   have e1 : ¬ (i : Int) < (L.length : Int) := by omega
   have hnone : L[i]? = none := List.getElem?_eq_none (by omega)
   have hpos : pos k L = i := FI c.so (by omega) hno fun y hy => by rw [hnone] at hy; cases hy
   have hat : YU k L = false := by unfold YU; rw [hpos, hnone]
   rw [hat, hpos]
   rw [hv] at gq
   simp (maxSteps := 4000000) only [zr, zh, zx, zV, ZA, ze, Ze, Zg, zi, Zf, zm, zq, ZH, XM, zu, zg, zp, zk, zI, Zd, zP, zS, zQ, Zk, Zl, zt, z7, Zb, zH, zl, zj, zf, zd, zc, Nat.reduceEqDiff, z0, z1, zw, zG, zL, Cells.get, getN, if_true, if_false, reduceCtorEq, z3, List.nil_append, Nat.add_zero, decide_false, g0, g1, g6, gq, e1]
theorem Po (hlf : L.length < E.lf) (hl : L.length < 1000000) (c : Jh s q v L room) (hG : s.Good) (k x : Int) :
 W (dcall E (d + 2) (.func (.func 26) #[] #[]) [.pointer (some ⟨q, 0, none⟩), .int .i64 k, .int .i64 x] s) fun r => r.1 = .int .i64 (J2 k L room) ∧ ∃ w, Jh r.2 q w (Jl k x L room) room ∧ Ext [q] s r.2 ∧ ∀ j, j ∈ blk w → j ∈ blk v ∨ s.next ≤ j := by
 have hfind := Ky hR hlf hl c k (d := d)
 have gq := c.gq
 have wq := c.wq
 have hql := DS.get_lt' gq
 have hvl := c.sl.lt
 obtain ⟨av, hv⟩ := c.sl.shape
 have hel := ZY L
 have hple := Qg k L
 refine Zw fun Q hQ => ?_
 rw [zT hR.iPut hR.fPut rfl]
 have hnq : ∀ o, (s.new o).get q = some (.cells (.list [v, .int .i64 room]) false) := fun o => (DS.new_get_lt hql).trans gq
 by_cases hin : YU k L = true
 · rw [hin] at hfind
   obtain ⟨⟨k', w0⟩, hx, hk⟩ := XX hin
   simp only at hk
   subst hk
   have hil := (List.getElem?_eq_some_iff.1 hx).1
   have hpe : J2 k' L room = 0 := by unfold J2; rw [if_pos hin]
   have hpr : Jl k' x L room = L.set (pos k' L) (k', x) := by unfold Jl Qf; rw [if_pos hin, if_pos hin]
   simp (maxSteps := 4000000) only [zr, zh, zx, ze, zi, zm, zq, zC, zg, zp, ZR, zk, zI, zS, zQ, Yg, Zl, zF, zt, zl, zj, zB, zf, zd, zc, Nat.reduceEqDiff, z0, zn, List.getElem?_cons_zero, List.getElem?_cons_succ, z1, z4, z5, zL, Cells.get, getN, Nat.ble_eq, Nat.reduceLeDiff, reduceCtorEq, z6, pp, pv, Wl, Yk, repeatZ, ZR, Nat.add_zero, Nat.zero_mul, d26, hfind, hnq, gq]
   refine W.mono (WJ (lx := []) (ly := ZM L) (.inr ⟨s.next, none, rfl, .inl rfl, DS.new_get_self hG, (hG _ (Nat.le_refl _)).2⟩) ((c.sl.view (Ye L)).of fun j hj => DS.new_get_lt (hvl j hj)) ZI.nil (Ye L) (DS.new_good hG) (by simp [ZM]; omega) (by simp [ZM]; omega)) ?_
   rintro ⟨w3, s3⟩ ⟨x3, X3, b3⟩
   simp only [blk, List.nil_append] at x3 X3 b3
   obtain ⟨b, sp, hw3, hsp, hb, hwb⟩ := x3.at (fun e => by rw [e] at hel; simp at hel; omega)
   rw [ZY] at hw3
   subst hw3
   have hbn : s.next ≤ b := by
    rcases b3 b (by simp [blk]) with h | h
    · simp at h; omega
    · have : s.next + 1 ≤ b := h
      omega
   have X13 : Ext [] s s3 := (Ext.new (F := [])).trans X3 (by simp)
   have gq3 := X13.keep gq (by simp)
   have wq3 := X13.wrs wq
   have hfl : (ZM L).flatten.length = L.length * 2 := by rw [(Ye L).flat, hel]
   have hb1 : pos k' L * 2 + 2 ≤ L.length * 2 := by omega
   have hqb : ¬ q = b := by omega
   have hbq : ¬ b = q := by omega
   have hgs : (pos k' L * 2 + 1) + 1 ≤ (ZM L).flatten.length := by omega
   simp (maxSteps := 4000000) only [zr, zh, zV, ze, Zx, zi, zm, zq, zg, zp, zY, zk, zI, zS, zQ, Yy, Zz, zt, zH, zl, zj, zf, zy, zd, zc, Nat.reduceEqDiff, z0, zn, List.getElem?_cons_zero, List.getElem?_cons_succ, z1, zw, zG, Nat.zero_add, Nat.reduceAdd, Zh, zZ, Zy, List.length_cons, List.length_nil, allOne, zJ, Bool.and_self, Bool.and_true, Nat.beq_eq, Nat.ble_eq, Nat.blt_eq, Nat.reduceLeDiff, if_true, reduceCtorEq, DS.wrC, Cells.size, Cells.fillFrom, Cells.set, Zj, DS.upd_get_ne, DS.upd_wr, Nat.add_zero, zD, hb, hwb, hil, gq3, wq3, hqb, hbq, hgs, Rt hx]
   have hsl : (L.set (pos k' L) (k', x)).length = L.length := List.length_set
   refine hQ _ ⟨by rw [hpe], .slice (some ⟨b, 0, sp⟩) L.length L.length, ⟨?_, ?_, ?_, ?_, ?_⟩, ?_, ?_⟩
   · simp (maxSteps := 4000000) only [z0, DS.upd_get_self, DS.upd_get_ne, Option.map_some, gq3, hqb]
   · simp (maxSteps := 4000000) only [DS.upd_wr, wq3]
   · rw [hpr]
     refine .inr ⟨b, sp, by rw [ZY, hsl], hsp, ?_, ?_⟩
     · simp (maxSteps := 4000000) only [z0, DS.upd_get_self, DS.upd_get_ne, Option.map_some, hb, hbq]
     · simp (maxSteps := 4000000) only [DS.upd_wr, hwb]
   · simp [blk]; omega
   · rw [hpr]
     have := Q5 c.so k' x
     unfold Qf at this
     rwa [if_pos hin] at this
   · exact (X13.trans (Ext.upd (F := [b]) (.inl (by simp))) (by simp; omega)).weaken (by simp) |>.trans' (Ext.upd (.inl (by simp)))
   · intro j hj
     simp [blk] at hj
     subst hj
     exact .inr hbn
 · have hin' : YU k L = false := by simpa using hin
   rw [hin'] at hfind
   by_cases hfull : room ≤ (L.length : Int)
   · have hpe : J2 k L room = 2 := by unfold J2; rw [if_neg hin, if_pos hfull]
     have hpr : Jl k x L room = L := by unfold Jl; rw [if_neg hin, if_pos hfull]
     have gq' := gq
     rw [hv, hel] at gq'
     simp (maxSteps := 4000000) only [zr, zh, zx, zM, zV, ze, Zx, zi, zm, zq, zC, zu, zg, zp, zk, zI, zP, zS, zQ, Yg, Zk, Zl, zF, zt, z7, Zb, zH, zl, zj, zB, zf, zd, zc, Nat.reduceEqDiff, z0, zn, List.getElem?_cons_zero, List.getElem?_cons_succ, z1, zw, zG, z4, z5, zL, Cells.get, getN, Nat.zero_add, if_true, reduceCtorEq, pp, pv, Nat.add_zero, decide_true, d26, hfind, gq', hfull]
     exact hQ _ ⟨by rw [hpe], v, by rw [hpr]; exact c, .refl, fun j hj => .inl hj⟩
   · have hpe : J2 k L room = 0 := by unfold J2; rw [if_neg hin, if_neg hfull]
     have hpr : Jl k x L room = Xc L (pos k L) (k, x) := by unfold Jl Qf; rw [if_neg hin, if_neg hfull, if_neg hin]
     have gq' := gq
     rw [hv, hel] at gq'
     have hnq' : ∀ o, (s.new o).get q = some (.cells (.list [.slice av L.length L.length, .int .i64 room]) false) := fun o => (DS.new_get_lt hql).trans gq'
     have hnq2 : ∀ o o', ((s.new o).new o').get q = some (.cells (.list [.slice av L.length L.length, .int .i64 room]) false) := fun o o' => (DS.new_get_lt (show q < (s.new o).next from Nat.lt_succ_of_lt hql)).trans (hnq' o)
     have hq1 : Nat.ble s.next q = false := by rw [Yb]; omega
     have hq2 : Nat.ble (s.next + 1) q = false := by rw [Yb]; omega
     have hv' := hv
     rw [hel] at hv'
     obtain ⟨w1, e1, v1, _, b1⟩ := FA c.sl (Ye L) (lo := none) (hi := some (.int .i64 (pos k L : Int))) (i := 0) (j := pos k L) rfl rfl (Nat.zero_le _) (by omega)
     obtain ⟨w2, e2, v2, _, b2⟩ := FA c.sl (Ye L) (lo := some (.int .i64 (pos k L : Int))) (hi := none) (i := pos k L) (j := (ZM L).length) rfl rfl (by omega) (Nat.le_refl _)
     have v1' : SlV s 2 w1 (ZM (L.take (pos k L))) := by have := v1; rwa [List.drop_zero, show (ZM L).take (pos k L) = ZM (L.take (pos k L)) from List.map_take.symm] at this
     have v2' : SlV s 2 w2 (ZM (L.drop (pos k L))) := by have := v2; rwa [List.take_length, show (ZM L).drop (pos k L) = ZM (L.drop (pos k L)) from List.map_drop.symm] at this
     rw [hv'] at e1 e2
     simp (maxSteps := 4000000) only [zr, zh, zx, zM, ze, zi, zm, zq, YO, Jv, zu, zg, ZV, Yu, zp, YA, ZR, zk, zI, zP, zS, Yf, zQ, Yg, Zk, Zl, zF, zt, z7, Zb, zl, zj, zB, zf, zd, zc, Nat.reduceEqDiff, z0, zn, List.getElem?_cons_zero, List.getElem?_cons_succ, z1, z4, z5, zL, Cells.get, getN, Nat.zero_add, Nat.reduceAdd, zZ, zO, List.length_cons, List.length_nil, Bool.and_self, Bool.and_eq_true, Nat.beq_eq, Nat.ble_eq, Nat.reduceLeDiff, Nat.le_refl, and_self, if_true, reduceCtorEq, z6, List.take_zero, List.take_succ_cons, List.drop_succ_cons, List.drop_zero, List.nil_append, List.cons_append, List.drop_nil, List.append_nil, pp, pv, Option.map_some, zU, Tb, Ke, Wl, Yk, Option.map_none, repeatZ, Nat.reduceMul, ZR, QI, Nat.add_zero, Nat.zero_mul, decide_false, foot, YC, hidden, noteAt, Bool.or_false, Bool.false_and, d26, hfind, gq', hfull, hnq', hnq2, YC, hidden, noteAt, Bool.or_false, Bool.false_and, hq1, hq2, e1, e2]
     obtain ⟨S2, hS2⟩ : ∃ S2 : DS, S2 = (s.new (.cells (.list []) false)).new (.cells (.list [.int .i64 k, .int .i64 x]) false) := ⟨_, rfl⟩
     rw [← hS2]
     have X2 : Ext [] s S2 := by rw [hS2]; exact Ext.new.trans' Ext.new
     have hG2 := X2.good hG
     have n2 : S2.next = s.next + 2 := by rw [hS2]; rfl
     have ga : S2.get s.next = some (.cells (.list []) false) := by rw [hS2]; simp (maxSteps := 4000000) (maxDischargeDepth := 8) only [zU, zo, zz, zA, Nat.lt_add_one, hG]
     have gb : S2.get (s.next + 1) = some (.cells (.list [.int .i64 k, .int .i64 x]) false) := by rw [hS2]; simp (maxSteps := 4000000) (maxDischargeDepth := 8) only [zU, zo, zA, hG]
     have wa : S2.wr s.next = true := X2.wrs (hG _ (Nat.le_refl _)).2
     clear hS2
     have o1 : ZI 2 (ZM (L.take (pos k L))) := Ye _
     have l1 : (ZM (L.take (pos k L))).length ≤ 1000000 := by rw [ZY, List.length_take]; omega
     have l2 : (ZM (L.drop (pos k L))).length ≤ 1000000 := by rw [ZY, List.length_drop]; omega
     refine W.mono (F3 (s := S2) (lx := []) (ly := ZM (L.take (pos k L))) (.inr ⟨s.next, none, rfl, .inl rfl, ga, wa⟩) (v1'.of fun j hj => X2.get j (hvl j (b1 j hj)) (by simp)) ZI.nil o1 hG2 (by simp; omega) (by simp; omega) ?_ ?_ ?_) ?_
     · intro j hj
       simp [blk] at hj
       subst hj
       exact ⟨by (simp only [hidden, shielded, noteAt, Z2, Bool.or_false, Bool.or_eq_false_iff, Bool.and_eq_false_iff, Yb, Yr, Yv, true_and, and_true, true_or, or_true] <;> omega), by (simp only [hidden, shielded, noteAt, Z2, Bool.or_false, Bool.or_eq_false_iff, Bool.and_eq_false_iff, Yb, Yr, Yv, true_and, and_true, true_or, or_true] <;> omega)⟩
     · intro j hj
       have := hvl j (b1 j hj)
       (simp only [hidden, shielded, noteAt, Z2, Bool.or_false, Bool.or_eq_false_iff, Bool.and_eq_false_iff, Yb, Yr, Yv, true_and, and_true, true_or, or_true] <;> omega)
     · intro j hj
       exact ⟨by (simp only [hidden, shielded, noteAt, Z2, Bool.or_false, Bool.or_eq_false_iff, Bool.and_eq_false_iff, Yb, Yr, Yv, true_and, and_true, true_or, or_true] <;> omega), by (simp only [hidden, shielded, noteAt, Z2, Bool.or_false, Bool.or_eq_false_iff, Bool.and_eq_false_iff, Yb, Yr, Yv, true_and, and_true, true_or, or_true] <;> omega)⟩
     rintro ⟨w3, s3⟩ ⟨x3, X3, b3, n3⟩
     simp only [List.nil_append] at x3 X3 b3 n3
     obtain ⟨S3, hS3⟩ : ∃ S3 : DS, S3 = unmask S2 s3 := ⟨_, rfl⟩
     rw [← hS3] at x3 X3 n3
     have hG3 := X3.good hG2
     have X3' : Ext [] s S3 := X2.trans X3 (by simp [blk])
     have hb3 : ∀ j, j ∈ blk w3 → s.next ≤ j := fun j hj => by
      rcases b3 j hj with h | h
      · simp [blk] at h; omega
      · omega
     have gb3 := X3.keep gb (by simp [blk])
     have gq3 := X3'.keep gq' (by simp)
     simp (maxSteps := 4000000) only [Jv, Yu, zl, zf, zd, zc, Nat.reduceEqDiff, z0, z1, List.nil_append, List.cons_append, Wl, foot, ← hS3, n3]
     refine W.mono (F3 (s := S3) (ly := ZM [(k, x)]) x3 (.inr ⟨s.next + 1, 0, none, 1, rfl, by unfold DS.read; rw [gb3]; rfl⟩) o1 (Ye _) hG3 (by simp [ZM]; omega) (by simp [ZM]; omega) ?_ ?_ ?_) ?_
     · intro j hj
       have := hb3 j hj
       exact ⟨by (simp only [hidden, shielded, noteAt, Z2, Bool.or_false, Bool.or_eq_false_iff, Bool.and_eq_false_iff, Yb, Yr, Yv, true_and, and_true, true_or, or_true] <;> omega), by (simp only [hidden, shielded, noteAt, Z2, Bool.or_false, Bool.or_eq_false_iff, Bool.and_eq_false_iff, Yb, Yr, Yv, true_and, and_true, true_or, or_true] <;> omega)⟩
     · intro j hj
       (simp only [hidden, shielded, noteAt, Z2, Bool.or_false, Bool.or_eq_false_iff, Bool.and_eq_false_iff, Yb, Yr, Yv, true_and, and_true, true_or, or_true] <;> omega)
     · intro j hj
       have := X3'.le
       exact ⟨by (simp only [hidden, shielded, noteAt, Z2, Bool.or_false, Bool.or_eq_false_iff, Bool.and_eq_false_iff, Yb, Yr, Yv, true_and, and_true, true_or, or_true] <;> omega), by (simp only [hidden, shielded, noteAt, Z2, Bool.or_false, Bool.or_eq_false_iff, Bool.and_eq_false_iff, Yb, Yr, Yv, true_and, and_true, true_or, or_true] <;> omega)⟩
     rintro ⟨w4, s4⟩ ⟨x4, X4, b4, n4⟩
     simp only at x4 X4 b4 n4
     obtain ⟨S4, hS4⟩ : ∃ S4 : DS, S4 = unmask S3 s4 := ⟨_, rfl⟩
     rw [← hS4] at x4 X4 n4
     have hG4 := X4.good hG3
     have X4' : Ext [] s S4 := X3'.trans X4 (fun j hj => .inr (hb3 j hj))
     have hb4 : ∀ j, j ∈ blk w4 → s.next ≤ j := fun j hj => by
      rcases b4 j hj with h | h
      · exact hb3 j h
      · have := X3'.le; omega
     simp (maxSteps := 4000000) only [YO, Yu, zl, zf, zd, zc, Nat.reduceEqDiff, z0, z1, List.nil_append, List.cons_append, Wl, foot, ← hS4, n4]
     refine W.mono (WJ x4 (v2'.of fun j hj => X4'.get j (hvl j (b2 j hj)) (by simp)) (o1.append (Ye _)) (Ye _) hG4 (by simp [ZM]; omega) (by simp [ZM]; omega)) ?_
     rintro ⟨w5, s5⟩ ⟨x5, X5, b5⟩
     simp only at x5 X5 b5
     have X5' : Ext [] s s5 := X4'.trans X5 (fun j hj => .inr (hb4 j hj))
     have hb5 : ∀ j, j ∈ blk w5 → s.next ≤ j := fun j hj => by
      rcases b5 j hj with h | h
      · exact hb4 j h
      · have := X4'.le; omega
     have gq5 := X5'.keep gq' (by simp)
     have wq5 := X5'.wrs wq
     obtain ⟨a5, hw5⟩ := x5.shape
     subst hw5
     have hcat : ZM (L.take (pos k L)) ++ ZM [(k, x)] ++ ZM (L.drop (pos k L)) = ZM (Xc L (pos k L) (k, x)) := by
      unfold Xc ZM
      rw [List.map_append, List.append_assoc]; rfl
     rw [hcat] at x5 hb5 ⊢
     simp (maxSteps := 4000000) only [zr, zh, zV, ze, zi, zm, zq, YO, zg, ZV, zp, zY, zk, zI, zS, zQ, Zz, zt, zH, zl, zj, zf, zy, zd, zc, Nat.reduceEqDiff, z0, z1, zw, zG, Nat.zero_add, Nat.reduceAdd, Zh, Zy, List.length_cons, List.length_nil, allOne, zJ, Bool.and_self, Bool.and_true, Nat.beq_eq, Nat.ble_eq, Nat.reduceLeDiff, if_true, DS.wrC, Cells.size, Cells.fillFrom, Cells.set, Zj, List.nil_append, List.cons_append, DS.upd_next, Nat.add_zero, foot, gq5, wq5]
     refine hQ _ ⟨by rw [hpe], .slice a5 (ZM (Xc L (pos k L) (k, x))).length (ZM (Xc L (pos k L) (k, x))).length, ⟨?_, ?_, ?_, ?_, ?_⟩, ?_, ?_⟩
     · simp (maxSteps := 4000000) only [DS.upd_get_self, Option.map_some, gq5]
     · simp (maxSteps := 4000000) only [DS.upd_wr, wq5]
     · rw [hpr]
       exact x5.keep (Ext.upd (F := [q]) (.inl (by simp))) fun j hj => by have := hb5 j hj; simp; omega
     · intro hq
       have := hb5 q hq
       omega
     · rw [hpr]
       have := Q5 c.so k x
       unfold Qf at this
       rwa [if_neg hin] at this
     · exact (X5'.weaken (by simp)).trans' (Ext.upd (.inl (by simp)))
     · exact fun j hj => .inr (hb5 j hj)
theorem Ps (hroom : 0 ≤ room ∧ room ≤ 4096) (hG : s.Good) : W (dcall E (d + 1) (.func (.func 25) #[] #[]) [.int .i64 room] s) fun r => r.1 = .tuple ⟨[.pointer (some ⟨s.next, 0, none⟩), .int .i64 0]⟩ ∧ Jh r.2 s.next (.slice none 0 0) [] room ∧ Ext [] s r.2 := by
 refine Zw fun Q hQ => ?_
 rw [zT hR.iNew hR.fNew rfl]
 have e1 : ¬ room < 0 := by omega
 have e2 : ¬ 4096 < room := by omega
 simp (maxSteps := 4000000) (maxDischargeDepth := 8) only [zr, zh, zx, zM, zV, ze, zi, zm, zq, ZH, Zm, zu, zg, zp, YA, zk, zI, Zd, zP, Yf, Xe, zt, z7, Zb, zH, zl, zj, zf, zd, zc, z0, zn, List.getElem?_cons_zero, z1, zw, zG, Nat.zero_add, Nat.reduceAdd, zZ, zO, List.length_cons, List.length_nil, Bool.and_self, Bool.and_eq_true, Nat.beq_eq, Nat.ble_eq, Nat.le_refl, and_self, if_true, if_false, z3, z6, List.take_zero, List.take_succ_cons, List.drop_succ_cons, List.nil_append, List.cons_append, List.drop_nil, List.append_nil, pp, pv, pw, pg, decide_false, zX, Nat.reduceLT, Nat.lt_add_one, Nat.succ_pos, d25, e1, e2, hG]
 exact hQ _ ⟨rfl, ⟨DS.new_get_self hG, (hG _ (Nat.le_refl _)).2, .nil, by simp [blk], .nil⟩, Ext.new⟩
end
end Go.Dx.StA
namespace Go.Dx.StA
open Go Go.Dx Go.Dx.Search Go.Dx.St Go.Proofs.Ytnmajohhfcgddaa
def CL : DCode := (.seq (.region [pv 7 33]) (.region [pv 8 34]))
def Vt : DCode := (.block 1 (.seq (.seq (.region [pp 35 (.ld none (tm 6)), pp 36 (.ld none (tm 3)), pp 37 (.nilck (tm 36)), pp 38 (.fadr 0 (tm 37)), pp 39 (.ld none (tm 38)), pp 40 (.blenL (tm 39)), pp 41 (.bin .geq (tm 35) (tm 40)), pv 42 41, pg 43 (.ld none (tm 3)) 42 false, pg 44 (.nilck (tm 43)) 42 false, pg 45 (.fadr 0 (tm 44)) 42 false, pg 46 (.ld none (tm 45)) 42 false, pg 47 (.ld none (tm 6)) 42 false, pg 48 (.ixL 2 (tm 46) (tm 47)) 42 false, pg 49 (.fadr 0 (tm 48)) 42 false, pg 50 (.ld none (tm 49)) 42 false, pw 51 7 42 false, pg 52 (.bin .neq (tm 50) (tm 51)) 42 false, pp 53 (.pick (tm 42) (.const (.bool true)) (tm 52)), pv 54 53, pg 55 (.ld none (tm 3)) 54 false, pg 56 (.nilck (tm 55)) 54 false, pg 57 (.fadr 0 (tm 56)) 54 false, pg 58 (.ld none (tm 57)) 54 false, pg 59 (.ld none (tm 6)) 54 false, pg 60 (.ixL 2 (tm 58) (tm 59)) 54 false, pg 61 (.fadr 1 (tm 60)) 54 false, pg 62 (.ld none (tm 61)) 54 false, pw 63 8 54 false, pg 64 (.bin .neq (tm 62) (tm 63)) 54 false, pp 65 (.pick (tm 54) (.const (.bool true)) (tm 64))]) (.cond (tm 65) (.seq (.region [⟨none, .st 1 (tm 4) (.const (.bool false)), none, [], false⟩]) (.ret)) (.skip))) (.region [pp 66 (.ld none (tm 6)), pp 67 (.bin .add (tm 66) (.const (.int .i64 1))), ⟨none, .st 1 (tm 6) (tm 67), none, [], false⟩])))
structure R6 (E : Env) : Prop where
 fLk : E.fn 17 = some d17
 iLk : E.intr 17 = none
 fRoom : E.fn 23 = some d23
 iRoom : E.intr 23 = none
 fr : ∀ d, Z4 (dcall E d)
structure LkJ (U : DS) (y1 a : Nat) (tt : PT Value) (i : Nat) (S : DS) : Prop where
 gn : S.get (a + 3) = some (.cells (.list [.int .i64 (i : Int)]) false)
 xt : Ext [y1, a + 3] U S
 gy : S.get y1 = some (Wn tt [33, 34] CL Vt)
section
variable {E : Env} (hF : Fns E) (hI : Its E) (hQf : R6 E) {s : DS} {d : Nat} {p q : Nat} {kv vv w : Value} {L : List Ent} {room : Int}
include hF hI hQf
omit hF hI in
theorem Pr {b : Nat} (cb : Xg s b kv vv L room) : dcall E (d + 1) (.func (.func 23) #[] #[]) [.pointer (some ⟨b, 0, none⟩)] s = some (.int .i64 room, s) := by
 have gp := cb.gp
 rw [← Jg, zT hQf.iRoom hQf.fRoom rfl]
 simp (maxSteps := 4000000) only [zr, zh, zx, zM, zV, ze, zi, zm, zq, zu, zg, zp, ZD, zk, zI, Z5, zS, zQ, Zl, zt, Zv, zH, zl, zj, zf, zd, zc, z0, zn, List.getElem?_cons_zero, z1, zw, zG, zL, Cells.get, getN, Nat.zero_add, if_false, reduceCtorEq, Bool.not_false, z3, pp, pv, d23, gp]
theorem Rd (c : Xg s p kv vv L room) (cr : Jh s q w L room) (hG : s.Good) (hlL : L.length ≤ 5000) (hpq : ∀ k, k ∈ own p kv vv → k ≠ q) :
 W (dcall E (d + 3) (.func (.func 17) #[] #[]) [.pointer (some ⟨p, 0, none⟩), .pointer (some ⟨q, 0, none⟩)] s) fun r => r.1 = .bool true ∧ Ext [] s r.2 := by
 have hlf := hF.lf
 have hcl := c.lt
 have hel := ZY L
 have hql := DS.get_lt' cr.gq
 have hwl := cr.sl.lt
 refine Zw fun Q hQ => ?_
 rw [zT hQf.iLk hQf.fLk rfl]
 have gq := cr.gq
 obtain ⟨wa, hws⟩ := cr.sl.shape
 rw [hel] at hws
 have gq' := gq
 rw [hws] at gq'
 obtain ⟨S1, hS1⟩ : ∃ S1 : DS, S1 = ((s.new (.cells (.list [.pointer (some ⟨q, 0, none⟩)]) false)).new (.cells (.list [.bool false]) false)).new (.cells (.list [.pointer (some ⟨p, 0, none⟩)]) false) := ⟨_, rfl⟩
 have X1 : Ext [] s S1 := by rw [hS1]; exact Ext.new.trans' (Ext.new.trans' Ext.new)
 have hG1 := X1.good hG
 have n1 : S1.next = s.next + 3 := by rw [hS1]; simp (maxSteps := 4000000) (maxDischargeDepth := 8) only [Nat.reduceAdd, zU, Nat.add_assoc]
 have q3 : S1.get s.next = some (.cells (.list [.pointer (some ⟨q, 0, none⟩)]) false) := by rw [hS1]; simp (maxSteps := 4000000) (maxDischargeDepth := 8) only [Nat.reduceAdd, zU, zo, zz, zA, Zu, Nat.add_assoc, Nat.lt_add_one, Nat.succ_pos, hG]
 have q4 : S1.get (s.next + 1) = some (.cells (.list [.bool false]) false) := by rw [hS1]; simp (maxSteps := 4000000) (maxDischargeDepth := 8) only [Nat.reduceAdd, zU, zo, zz, zA, Nat.add_assoc, Nat.lt_add_one, hG]
 have qc : S1.get (s.next + 2) = some (.cells (.list [.pointer (some ⟨p, 0, none⟩)]) false) := by rw [hS1]; simp (maxSteps := 4000000) (maxDischargeDepth := 8) only [Nat.reduceAdd, zU, zo, zA, Nat.add_assoc, hG]
 have c1 := c.keep X1 (by simp)
 have cr1 := cr.keep X1 (by simp) (by simp)
 simp (maxSteps := 4000000) (maxDischargeDepth := 8) only [zr, zh, ze, zi, zm, zq, YO, ZH, Jv, Zm, zg, ZV, zp, ZD, zk, zI, Z5, zS, zQ, Zk, Zl, Zi, Xe, zF, zt, Zv, zl, zj, zB, zf, zd, zc, z0, zn, List.getElem?_cons_zero, List.getElem?_cons_succ, z1, z4, z5, zL, Cells.get, getN, Nat.reduceAdd, J1, if_false, Bool.not_false, z3, List.nil_append, List.cons_append, pp, pv, pw, pg, zU, Nat.add_zero, foot, zo, zz, zA, zX, S9, Zu, Nat.add_assoc, Nat.reduceLT, Nat.lt_add_one, Nat.succ_pos, d17, hG, CT hI, hql, gq']
 rw [← hS1]
 refine W.intro (R7 hF (d := d + 1) (c1.mask fun k hk => ?_)) ?_
 · have h1 := hcl k hk
   have h2 := hpq k hk
   exact ⟨by (simp only [hidden, shielded, noteAt, Z2, Bool.or_false, Bool.or_eq_false_iff, Bool.and_eq_false_iff, Yb, Yr, Yv, true_and, and_true, true_or, or_true] <;> omega), by (simp only [hidden, shielded, noteAt, Z2, Bool.or_false, Bool.or_eq_false_iff, Bool.and_eq_false_iff, Yb, Yr, Yv, true_and, and_true, true_or, or_true] <;> omega)⟩
 have gq1 := cr1.gq
 rw [hws] at gq1
 simp (maxSteps := 4000000) only [YO, ZH, Jv, Zm, ZV, Yu, zp, zk, zI, Zd, zP, zS, zQ, Zl, zF, zt, z7, Zb, zl, zj, zB, zf, zd, zc, Nat.reduceEqDiff, z0, zn, List.getElem?_cons_zero, z1, z4, z5, zL, Cells.get, getN, Nat.zero_add, if_true, if_false, reduceCtorEq, Bool.not_true, z3, List.nil_append, List.cons_append, Tb, QI, decide_true, foot, q3, gq1]
 refine W.intro (Pr hQf (d := d + 1) (c1.mask fun k hk => ?_)) ?_
 · have h1 := hcl k hk
   have h2 := hpq k hk
   exact ⟨by (simp only [hidden, shielded, noteAt, Z2, Bool.or_false, Bool.or_eq_false_iff, Bool.and_eq_false_iff, Yb, Yr, Yv, true_and, and_true, true_or, or_true] <;> omega), by (simp only [hidden, shielded, noteAt, Z2, Bool.or_false, Bool.or_eq_false_iff, Bool.and_eq_false_iff, Yb, Yr, Yv, true_and, and_true, true_or, or_true] <;> omega)⟩
 simp (maxSteps := 4000000) (maxDischargeDepth := 8) only [zr, zh, zx, zN, zM, ze, zi, zm, zq, YO, ZH, Zm, zu, zg, ZV, Yu, zp, zY, zk, zI, Zd, zP, Zz, Zi, zt, z7, Zb, zl, zj, zf, zy, zd, zc, z0, z1, Nat.zero_add, Zh, zZ, List.length_cons, List.length_nil, allOne, zJ, Bool.and_self, Bool.and_true, Nat.beq_eq, Nat.ble_eq, Nat.le_refl, if_true, if_false, Bool.not_true, z3, DS.wrC, Cells.size, Cells.fillFrom, Cells.set, Zj, List.nil_append, List.cons_append, wrN, Tb, QI, decide_true, foot, zo, zA, ZF, zX, ZW, Nat.reduceLT, Nat.lt_add_one, hG1]
 obtain ⟨S2, hS2⟩ : ∃ S2 : DS, S2 = (S1.new (.cells (.list [.int .i64 0]) false)).upd S1.next (.cells (.list [.int .i64 0]) false) := ⟨_, rfl⟩
 rw [← hS2]
 have X2 : Ext [] S1 S2 := by rw [hS2]; exact (Ext.new (F := [])).trans (Ext.upd (F := [S1.next]) (.inl (by simp))) (by simp)
 have hG2 := X2.good hG1
 have n2 : S2.next = s.next + 4 := by rw [hS2]; simp (maxSteps := 4000000) (maxDischargeDepth := 8) only [Nat.reduceAdd, DS.upd_next, zU, Nat.add_assoc, n1]
 have q6 : S2.get (s.next + 3) = some (.cells (.list [.int .i64 0]) false) := by rw [hS2, ← n1]; simp (maxSteps := 4000000) (maxDischargeDepth := 8) only [DS.upd_get_self, Option.map_some, zo, hG1]
 clear hS2
 have X02 := X1.trans' X2
 refine Cc (by simp (maxSteps := 4000000) only [zl, zd, z1]; rfl) ?_
 generalize hO1 : Wn _ _ _ _ = O1
 obtain ⟨tt, hO1', t3, t4, t6⟩ : ∃ tt, O1 = Wn tt [33, 34] CL Vt ∧ tt.get 3 = some (.pointer (some ⟨s.next, 0, none⟩)) ∧ tt.get 4 = some (.pointer (some ⟨s.next + 1, 0, none⟩)) ∧ tt.get 6 = some (.pointer (some ⟨s.next + 3, 0, none⟩)) := ⟨_, hO1.symm, by simp (maxSteps := 4000000) only [zd, zc, Nat.reduceEqDiff, z0], by simp (maxSteps := 4000000) only [zd, zc, Nat.reduceEqDiff, z0], by simp (maxSteps := 4000000) only [zd, zc, Nat.reduceEqDiff, z0, n1]⟩
 have XU : Ext [] S2 ((S2.new .dfr).new O1) := Ext.new.trans' Ext.new
 have hGU := XU.good hG2
 have gy : ((S2.new .dfr).new O1).get (S2.next + 1) = some O1 := by simp (maxSteps := 4000000) (maxDischargeDepth := 8) only [zU, zo, zA, hG2]
 have gd : ((S2.new .dfr).new O1).get S2.next = some .dfr := by simp (maxSteps := 4000000) (maxDischargeDepth := 8) only [zU, zo, zz, zA, Nat.lt_add_one, hG2]
 have nU : ((S2.new .dfr).new O1).next = S2.next + 2 := by simp (maxSteps := 4000000) (maxDischargeDepth := 8) only [Nat.reduceAdd, zU, Nat.add_assoc]
 have X0U := X02.trans' XU
 obtain ⟨U, hU⟩ : ∃ U : DS, U = (S2.new .dfr).new O1 := ⟨_, rfl⟩
 rw [← hU] at XU hGU gy gd nU X0U ⊢
 clear hU
 have X1U := X2.trans' XU
 have wU : ∀ k, s.next ≤ k → U.wr k = true := fun k hk => X0U.wrs (hG k hk).2
 have u3 := X1U.keep q3 (by simp)
 have u4 := X1U.keep q4 (by simp)
 have uc := X1U.keep qc (by simp)
 have u6 := XU.keep q6 (by simp)
 have cU := c.keep X0U (by simp)
 have crU := cr.keep X0U (by simp) (by simp)
 have hno : ∀ k, k < s.next → k ∉ [S2.next + 1, s.next + 3] := fun k hk => by simp; omega
 refine W.mono (D7 hI (d := d + 1) (p := p) (kv := kv) (vv := vv) (L := L) (room := room) (c := s.next + 2) (J := LkJ U (S2.next + 1) s.next tt) (Stop := fun _ => False) (fun i S hj => ?_) (fun i x S hx hj => ?_) ?_ (by omega)) ?_
 · exact ⟨cU.keep hj.xt (fun k hk => hno k (hcl k hk)), hj.xt.keep uc (by simp; omega)⟩
 · obtain ⟨gn, X, gyS⟩ := hj
   have hGS := X.good hGU
   have hil := (List.getElem?_eq_some_iff.1 hx).1
   have s3 := X.keep u3 (by simp; omega)
   have crS := crU.keep X (hno q hql) (fun k hk => hno k (hwl k hk))
   have gqS := crS.gq
   obtain ⟨b, sp, hwb, hsp, hgb, hww⟩ := crS.sl.at (fun e => by rw [e] at hel; simp at hel; omega)
   rw [hel] at hwb
   rw [hwb] at gqS
   have hbl : b < s.next := hwl b (by rw [hwb]; simp [blk])
   have hg0 := WV hx
   have hg1 := Qt hx
   have hwS : ∀ k, s.next ≤ k → S.wr k = true := fun k hk => X.wrs (wU k hk)
   have hwn := hwS (s.next + 3) (by omega)
   have e1 : ¬ (L.length : Int) ≤ (i : Int) := by omega
   have w1 : zE .i64 ((i : Int) + 1) = ((i + 1 : Nat) : Int) := by rw [zR (by omega) (by omega)]; omega
   refine KU gyS rfl ?_
   simp (maxSteps := 4000000) only [zr, zh, ze, zi, zm, zq, zg, zI, zl, zf, zd, zc, Nat.reduceEqDiff, z0, z1, pv, Wg, XG, CL]
   refine JP gyS (hwS _ (by omega)) ?_
   obtain ⟨Sb, hSb⟩ : ∃ Sb : DS, Sb = S.upd (S2.next + 1) (.loop .busy .normal tt [33, 34] CL Vt) := ⟨_, rfl⟩
   have Xb : Ext [S2.next + 1] S Sb := by rw [hSb]; exact Ext.upd (.inl (by simp))
   have gby : Sb.get (S2.next + 1) = some (.loop .busy .normal tt [33, 34] CL Vt) := by rw [hSb, DS.upd_get_self, gyS]; rfl
   show WC _ _ _ Vt ⟨_, S.upd (S2.next + 1) (.loop .busy .normal tt [33, 34] CL Vt), []⟩ _
   rw [← hSb]
   clear hSb
   have b3 := Xb.keep s3 (by simp; omega)
   have bn := Xb.keep gn (by simp; omega)
   have bq := Xb.keep gqS (by simp; omega)
   have bb := Xb.keep hgb (by simp; omega)
   have bw := Xb.wrs hwn
   have hx1 : (x.1 = x.1) = True := eq_true rfl
   have hx2 : (x.2 = x.2) = True := eq_true rfl
   simp (maxSteps := 4000000) only [zr, zh, zx, zN, zM, ze, zK, zi, zm, zq, ZH, Zm, zu, zg, zp, zY, zk, zI, Zd, zP, zS, zQ, Yy, Zk, Zl, Zz, zt, z7, Zb, zl, zj, zf, zy, zd, zc, Nat.reduceEqDiff, z0, z1, zL, Cells.get, getN, Nat.zero_add, Zh, zZ, List.length_cons, List.length_nil, allOne, zJ, Bool.and_self, Bool.and_true, Nat.beq_eq, Nat.ble_eq, Nat.blt_eq, Nat.le_refl, if_true, if_false, Bool.not_true, z3, DS.wrC, Cells.size, Cells.fillFrom, Cells.set, Zj, pp, pv, pw, pg, Nat.add_zero, zD, decide_true, decide_false, Vt, t3, t4, t6, b3, bn, bq, bb, hil, e1, hg0, hg1, w1, bw, hx1, hx2]
   have X4 : Ext [s.next + 3] Sb (Sb.upd (s.next + 3) (.cells (.list [.int .i64 ((i + 1 : Nat) : Int)]) false)) := Ext.upd (.inl (by simp))
   have g4y := X4.keep gby (by simp; omega)
   refine Qc g4y (X4.wrs (Xb.wrs (hwS _ (by omega)))) (.inl ⟨rfl, ?_⟩)
   have X6 : Ext [S2.next + 1] (Sb.upd (s.next + 3) (.cells (.list [.int .i64 ((i + 1 : Nat) : Int)]) false)) ((Sb.upd (s.next + 3) (.cells (.list [.int .i64 ((i + 1 : Nat) : Int)]) false)).upd (S2.next + 1) (.loop .ready .normal tt [33, 34] CL Vt)) := Ext.upd (.inl (by simp))
   refine ⟨X6.keep (by rw [DS.upd_get_self, bn]; rfl) (by simp; omega), ((X.trans' (Xb.weaken (by simp))).trans' (X4.weaken (by simp))).trans' (X6.weaken (by simp)), ?_⟩
   show (DS.upd _ (S2.next + 1) _).get (S2.next + 1) = _
   rw [DS.upd_get_self, g4y]; rfl
 · exact ⟨u6, .refl, by rw [gy, hO1']⟩
 rintro ⟨v3, s3⟩ h
 have hj := h.resolve_right id
 obtain ⟨gn, X3, gy3⟩ := hj
 simp only at gn X3 gy3
 refine Qd (gy3.trans rfl) (.inl rfl) (X3.wrs (wU _ (by omega))) ?_
 generalize hOE : DObj.loop .exhausted .normal _ _ _ _ = OE
 have X4 : Ext [S2.next + 1] s3 (s3.upd (S2.next + 1) OE) := Ext.upd (.inl (by simp))
 obtain ⟨S4, hS4⟩ : ∃ S4 : DS, S4 = s3.upd (S2.next + 1) OE := ⟨_, rfl⟩
 rw [← hS4] at X4 ⊢
 clear hS4
 have r3 := X4.keep (X3.keep u3 (by simp; omega)) (by simp; omega)
 have r4 := X4.keep (X3.keep u4 (by simp; omega)) (by simp; omega)
 have rn := X4.keep gn (by simp; omega)
 have rd := X4.keep (X3.keep gd (by simp; omega)) (by simp)
 have hw4 : ∀ j, S4.wr (s.next + j) = true := fun j => X4.wrs (X3.wrs (wU _ (by omega)))
 have rq := X4.keep ((crU.keep X3 (hno q hql) (fun k hk => hno k (hwl k hk))).gq) (by simp; omega)
 rw [hws] at rq
 have hqq : ((L.length : Int) = (L.length : Int)) = True := eq_true rfl
 simp (maxSteps := 4000000) only [zr, zh, zV, ze, zK, zi, zm, zq, zg, zp, zY, zk, zP, zS, zQ, Zk, Zl, Zz, zt, z7, Zb, zl, zf, zy, zd, zc, Nat.reduceEqDiff, z0, z1, zL, Cells.get, getN, Nat.zero_add, Zh, XV, List.length_cons, List.length_nil, allOne, zJ, Bool.and_self, Bool.and_true, Nat.beq_eq, Nat.ble_eq, Nat.le_refl, if_true, DS.wrC, Cells.size, Cells.fillFrom, Cells.set, Zj, Nat.add_zero, decide_true, r3, r4, rn, rq, hw4, hqq, n1]
 rw [W2 (by rw [DS.upd_get_ne (by omega)]; exact rd) (by rw [DS.upd_wr]; exact X4.wrs (X3.wrs (wU _ (by omega))))]
 have m4 : ((S4.upd (s.next + 1) (.cells (.list [.bool true]) false)).rid S2.next).get (s.next + 1) = some (.cells (.list [.bool true]) false) := by
  rw [DS.rid_get_ne (by omega), DS.upd_get_self, r4]; rfl
 simp (maxSteps := 4000000) only [zk, Zo, zl, zd, zc, Nat.reduceEqDiff, z0, z1, zw, zG, Cells.get, getN, m4]
 refine hQ _ ⟨rfl, ?_⟩
 have y1 : Ext [s.next + 1, S2.next] S4 (S4.upd (s.next + 1) (.cells (.list [.bool true]) false)) := Ext.upd (.inl (by simp))
 have y2 : Ext [s.next + 1, S2.next] (S4.upd (s.next + 1) (.cells (.list [.bool true]) false)) ((S4.upd (s.next + 1) (.cells (.list [.bool true]) false)).rid S2.next) := Ext.rid (.inl (by simp))
 exact ((X0U.trans X3 (by simp; omega)).trans X4 (by simp; omega)).trans (y1.trans' y2) (by simp; omega)
end
end Go.Dx.StA
namespace Go.Dx.StA
open Go Go.Dx Go.Proofs.Ytnmajohhfcgddaa
def DE {α β : Type} (Ra : Nat → DS → Value → α → Prop) (Rb : Nat → DS → Value → β → Prop) (o : Nat) (s : DS) (v : Value) (x : α × β) : Prop := ∃ a b : Value, v = .agg ⟨a.cells.toList ++ b.cells.toList⟩ ∧ Ra o s a x.1 ∧ Rb o s b x.2
def PR {α : Type} (sz : Nat) (row : α → List Value) (n : Nat) (s : DS) (v : Value) (xs : List α) : Prop := SlC s sz v (xs.map row) ∧ ∀ k, k ∈ blk v → n ≤ k
theorem PQ {α : Type} {sz : Nat} {row : α → List Value} : Fv (PR sz row) :=
 ⟨fun n s s' v x F h X hF => ⟨h.1.keep X fun k hk hf => by have := h.2 k hk; have := hF k hf; omega, h.2⟩, fun n n' s v x h hn => ⟨h.1, fun k hk => Nat.le_trans hn (h.2 k hk)⟩⟩
structure R8 (E : Env) : Prop where
 ftake : E.fn 101 = some d101
 itake : E.intr 101 = none
 fglow : E.fn 95 = some d95
 iglow : E.intr 95 = none
 fnum2 : E.fn 94 = some d94
 inum2 : E.intr 94 = none
 lf : 10000 ≤ E.lf
theorem SlR.cell {s : DS} {v : Value} {l : List Int} (h : SlR s v l) (hl : l ≠ []) : ∃ b off sp c cc ro, v = .slice (some ⟨b, off, sp⟩) l.length c ∧ s.get b = some (.cells cc ro) ∧ ∀ i x, l[i]? = some x → cc.get (off + i) = some (.int .u8 x) := by
 rcases h with ⟨_, rfl⟩ | ⟨b, off, sp, c, rfl, h1, h2, h3⟩
 · exact absurd rfl hl
 · unfold DS.read at h3
   split at h3
   · rename_i cc ro hg
     obtain ⟨_, h4⟩ := Q4 h3
     refine ⟨b, off, sp, c, cc, ro, rfl, hg, fun i x hx => ?_⟩
     rw [h4 i (List.getElem?_eq_some_iff.1 hx).1]
     unfold u8s
     rw [List.getElem?_map, hx]
     rfl
   · cases h3
def Kz (_ : Nat) (_ : DS) (v : Value) (x : Int) : Prop := v = .int .i64 x
theorem V5 : Fv Kz := ⟨fun _ _ _ _ _ _ h _ _ => h, fun _ _ _ _ _ h _ => h⟩
theorem C7 {j : Nat} (hj : j ≤ 7) : (256 : Int) ^ j ≤ 72057594037927936 := by
 match j, hj with
 | 0, _ | 1, _ | 2, _ | 3, _ | 4, _ | 5, _ | 6, _ | 7, _ => decide
 | _ + 8, h => omega
structure MM (s1 : DS) (r : Nat) (w : Value) (size : Nat) (most : Int) (l : List Int) (n : Nat) (y : St) : Prop where
 ex : ∃ j : Nat, n = l.length - j ∧ j ≤ l.length ∧ y.s = s1 ∧ y.defers = [] ∧ (y.t.get 0 = some (.pointer (some ⟨r, 0, none⟩)) ∧ y.t.get 1 = some (.int .i64 (size : Int)) ∧ y.t.get 2 = some (.int .i64 most) ∧ y.t.get 7 = some (.int .u64 (leV (l.take j))) ∧ y.t.get 12 = some w ∧ y.t.get 13 = some (.int .i64 (l.length : Int)) ∧ y.t.get 14 = some (.int .i64 (j : Int)))
section
variable {E : Env} (hC : R8 E) {s : DS} {r : Nat} {bv : Value} {bs : List Int} {bad : Bool} {d : Nat}
include hC
theorem Pi (h : Vz s r bv bs bad) (hG : s.Good) (hl : bs.length ≤ 1048576) (n : Nat) (hn : n ≤ 65536) :
 W (dcall E (d + 1) (.func (.func 101) #[] #[]) [.pointer (some ⟨r, 0, none⟩), .int .i64 (n : Int)] s) fun p => ∃ bv', SlR p.2 p.1 (tk n (bs, bad)).1 ∧ Vz p.2 r bv' (tk n (bs, bad)).2.1 (tk n (bs, bad)).2.2 ∧ Ext [r] s p.2 ∧ (∀ k, k ∈ blk bv' → k ∈ blk bv) ∧ ∀ k, k ∈ blk p.1 → k ∈ blk bv := by
 have gr := h.gr
 have wr := h.wr
 have hrl := DS.get_lt' gr
 obtain ⟨ba, bc, hbv⟩ := h.sl.len
 refine Zw fun Q hQ => ?_
 rw [zT hC.itake hC.ftake rfl]
 have e1 : ¬ (n : Int) < 0 := by omega
 have X : ∀ o, Ext [r] s (s.upd r o) := fun o => Ext.upd (.inl (by simp))
 have fail : tk n (bs, bad) = ([], (bs, true)) → Q (.slice none 0 0, s.upd r (.cells (.list [bv, .bool true]) false)) := by
  intro ht
  rw [ht] at hQ
  refine hQ _ ⟨bv, .inl ⟨rfl, rfl⟩, ⟨by rw [DS.upd_get_self, gr]; rfl, by rw [DS.upd_wr]; exact wr, h.sl.keep (X _) (fun k hk e => ?_), h.ne⟩, X _, fun k hk => hk, fun k hk => by simp [blk] at hk⟩
  have e := List.mem_singleton.1 e
  subst e
  exact h.ne hk
 cases bad with
 | true =>
  have := fail (by unfold tk; rw [if_pos (.inl rfl)])
  simp (maxSteps := 4000000) only [zr, zh, zx, zV, ze, Zx, zi, zm, zq, ZH, XL, zC, zg, zp, zY, zk, zI, Zd, zS, zQ, Zl, Zz, zt, zH, zl, zj, zf, zy, zd, zc, Nat.reduceEqDiff, z0, zn, List.getElem?_cons_zero, z1, zw, zG, zL, Cells.get, getN, Nat.zero_add, Nat.reduceAdd, Zh, XV, List.length_cons, List.length_nil, allOne, zJ, Bool.and_self, Bool.and_true, Nat.beq_eq, Nat.ble_eq, Nat.le_refl, if_true, if_false, reduceCtorEq, z3, DS.wrC, Cells.size, Cells.fillFrom, Cells.set, Zj, List.nil_append, pp, pv, pw, pg, d101, gr, wr]
  exact this
 | false =>
  by_cases c1 : bs.length < n
  · have := fail (by unfold tk; rw [if_pos (.inr c1)])
    have e2 : (bs.length : Int) < (n : Int) := by omega
    subst hbv
    simp (maxSteps := 4000000) only [zr, zh, zx, zV, ze, Zx, zi, zm, zq, ZH, Zm, zC, zg, zp, zY, zk, zI, Zd, zP, zS, zQ, Zk, Zl, Zz, zt, z7, Zb, zH, zl, zj, zf, zy, zd, zc, Nat.reduceEqDiff, z0, zn, List.getElem?_cons_zero, List.getElem?_cons_succ, z1, zw, zG, zL, Cells.get, getN, Nat.zero_add, Nat.reduceAdd, Zh, XV, List.length_cons, List.length_nil, allOne, zJ, Bool.and_self, Bool.and_true, Nat.beq_eq, Nat.ble_eq, Nat.le_refl, if_true, if_false, reduceCtorEq, z3, DS.wrC, Cells.size, Cells.fillFrom, Cells.set, Zj, pp, pv, pw, pg, Nat.add_zero, decide_true, decide_false, d101, gr, wr, e1, e2]
    exact this
  · have ht : tk n (bs, false) = (bs.take n, (bs.drop n, false)) := by unfold tk; rw [if_neg (by simp; omega)]
    rw [ht] at hQ
    have e2 : ¬ (bs.length : Int) < (n : Int) := by omega
    obtain ⟨w1, hw1, r1, b1⟩ := h.sl.take (i := n) (by omega)
    obtain ⟨w2, hw2, r2, b2⟩ := h.sl.drop (i := n) (by omega)
    have hd : ∀ k, k ∈ blk bv → k ∉ [r] := fun k hk e => h.ne (List.mem_singleton.1 e ▸ hk)
    have fin : Q (w1, s.upd r (.cells (.list [w2, .bool false]) false)) :=
     hQ _ ⟨w2, r1.keep (X _) fun k hk => hd k (b1 k hk), ⟨by rw [DS.upd_get_self, gr]; rfl, by rw [DS.upd_wr]; exact wr, r2.keep (X _) fun k hk => hd k (b2 k hk), fun hk => h.ne (b2 _ hk)⟩, X _, b2, b1⟩
    obtain ⟨a2, c2, h2⟩ := r2.len
    subst h2
    subst hbv
    simp (maxSteps := 4000000) only [zr, zh, zx, zM, zV, ze, zi, zm, zq, ZH, Zm, zu, zg, zp, zY, zk, zI, Zd, zP, zS, zQ, Zk, Zl, Zz, zt, z7, Zb, zH, zl, zj, zf, zy, zd, zc, Nat.reduceEqDiff, z0, zn, List.getElem?_cons_zero, List.getElem?_cons_succ, z1, zw, zG, zL, Cells.get, getN, Nat.zero_add, Nat.reduceAdd, Zh, Zy, List.length_cons, List.length_nil, allOne, zJ, Bool.and_self, Bool.and_true, Nat.beq_eq, Nat.ble_eq, Nat.reduceLeDiff, if_true, if_false, reduceCtorEq, z3, DS.wrC, Cells.size, Cells.fillFrom, Cells.set, Zj, pp, pv, pw, pg, Option.map_some, Ke, Option.map_none, Nat.add_zero, decide_false, d101, gr, wr, e1, e2, hw1, hw2]
    exact fin
theorem PO (h : Vz s r bv bs bad) (hG : s.Good) (hB : IsB bs) (hl : bs.length ≤ 1048576) {size : Nat} (hs : size ≤ 8) {most : Int} (hm : 0 ≤ most) :
 W (dcall E (d + 2) (.func (.func 95) #[] #[]) [.pointer (some ⟨r, 0, none⟩), .int .i64 (size : Int), .int .i64 most] s) (ML s r bv Kz (rdN size most (bs, bad))) := by
 have hlf := hC.lf
 refine Zw fun Q hQ => ?_
 rw [zT hC.iglow hC.fglow rfl]
 simp (maxSteps := 4000000) only [zr, zh, ze, zi, zm, zq, zg, zI, zF, zl, zj, zB, zf, zd, zc, Nat.reduceEqDiff, z0, zn, List.getElem?_cons_zero, List.getElem?_cons_succ, z1, z4, z5, reduceCtorEq, pp, pv, pw, pg, d95]
 refine W.mono (Pi hC h hG hl size (by omega)) ?_
 rintro ⟨w, s1⟩ ⟨bv', hw, hin, X1, hb1, hb2⟩
 simp only at hw hin X1 hb1 hb2
 obtain ⟨ll, hll⟩ : ∃ ll, ll = (tk size (bs, bad)).1 := ⟨_, rfl⟩
 have hlB : IsB ll := by
  rw [hll]
  unfold tk
  split
  · exact fun b hb => nomatch hb
  · exact hB.take size
 have hls : ll.length ≤ size := by
  rw [hll]
  unfold tk
  split
  · exact Nat.zero_le _
  · rw [List.length_take]; exact Nat.min_le_left ..
 rw [← hll] at hw
 obtain ⟨wa, wc, hwv⟩ := hw.len
 have gr := hin.gr
 have wr := hin.wr
 subst hwv
 simp (maxSteps := 4000000) only [zN, ze, zi, zm, zq, zg, zp, zk, zI, Zk, zt, zl, zj, zf, zd, z1]
 refine ZP (MM s1 r (.slice wa ll.length wc) size most ll) ll.length (by omega) ⟨0, rfl, Nat.zero_le _, rfl, rfl, by simp (maxSteps := 4000000) only [zd, zc, Nat.reduceEqDiff, z0, zn, List.getElem?_cons_zero, List.getElem?_cons_succ, Bool.true_and, true_and, reduceCtorEq, List.take_zero]; exact ⟨rfl, rfl⟩⟩ ?_
 rintro n ⟨t, s2, ds⟩ hn ⟨j, rfl, hj, hs2, hds, ⟨g0, g1, g2, g7, g12, g13, g14⟩⟩
 simp only at hs2 hds g0 g1 g2 g7 g12 g13 g14
 subst hs2 hds
 by_cases c1 : j < ll.length
 · have hx : ll[j]? = some ll[j] := List.getElem?_eq_getElem c1
   generalize ll[j] = x at hx
   have e1 : (j : Int) < (ll.length : Int) := by omega
   obtain ⟨b, off, sp, c, cc, ro, hv', hgb, hcc⟩ := SlR.cell hw (fun e => by rw [e] at c1; simp at c1)
   have hcx := hcc j x hx
   simp only [Cells.get] at hcx
   have hxr := hlB x (List.mem_of_getElem? hx)
   have hr := JX (hlB.take j)
   have hlt : (ll.take j).length = j := by rw [List.length_take]; omega
   rw [hlt] at hr
   have hor := NJ (j := j) (by omega) hr hxr
   have hsn : leV (ll.take (j + 1)) = leV (ll.take j) + 256 ^ j * x := by
    rw [List.take_add_one, hx]
    show leV (ll.take j ++ [x]) = _
    rw [Gm, hlt]
   have w2 : zE .i64 ((j : Int) + 1) = ((j + 1 : Nat) : Int) := by rw [zR (by omega) (by omega)]; omega
   have w3 : zE .i64 (8 * (j : Int)) = ((8 * j : Nat) : Int) := by rw [zR (by omega) (by omega)]; omega
   have w4 : zE .u64 x = x := K6 hxr.1 (by omega)
   have hsh : Ym .shl .u64 x ((8 * j : Nat) : Int) = some (.int .u64 (256 ^ j * x)) := by
    unfold Ym
    rw [if_neg (by omega)]
    have hble : Nat.ble (bitsOf .u64) (8 * j) = false := by
     rw [← Bool.not_eq_true, Nat.ble_eq]
     show ¬ 64 ≤ _
     omega
    simp only [Int.toNat_natCast, hble, z3, if_false, hor.1]
   injection hv' with hv1 hv2 hv3
   subst hv1 hv3
   simp (maxSteps := 4000000) only [zr, zh, zx, zN, zM, ze, zK, zi, zW, zm, zq, zC, zg, zp, zk, zI, zP, YB, Yy, Zl, zt, z7, Zb, zl, zj, zf, zd, zc, Nat.reduceEqDiff, z0, z1, zL, Cells.get, Nat.blt_eq, if_true, zD, Nat.mul_one, decide_true, g0, g1, g2, g7, g12, g13, g14, hgb, hcx, e1, c1, w2, w3, w4, hsh, hor.2]
   refine ⟨ll.length - (j + 1), by omega, ⟨j + 1, rfl, by omega, rfl, rfl, by simp (maxSteps := 4000000) only [zd, zc, Nat.reduceEqDiff, z0, Bool.and_self, and_self, reduceCtorEq, g0, g1, g2, g12, g13, hsn]⟩⟩
 · have hj' : j = ll.length := by omega
   have e1 : ¬ (j : Int) < (ll.length : Int) := by omega
   rw [hj', List.take_length] at g7
   have hrv := JX hlB
   have hi : size < 8 → zE .i64 (leV ll) = leV ll := fun h8 => by
    have h7 := C7 (j := ll.length) (by omega)
    exact zR (by omega) (by omega)
   by_cases cA : size < 8 ∧ most < leV ll
   · have hrd : rdN size most (bs, bad) = (0, ((tk size (bs, bad)).2.1, true)) := by
      unfold rdN
      rw [← hll, if_pos cA]
      split
      · rename_i hb
        exact Prod.ext rfl (Prod.ext rfl hb)
      · rfl
     have hi := hi cA.1
     have f1 : (size : Int) < 8 := by omega
     have f2 := cA.2
     rw [hrd] at hQ
     have fin : Q (.int .i64 0, s2.upd r (.cells (.list [bv', .bool true]) false)) :=
      hQ _ ⟨bv', rfl, ⟨by rw [DS.upd_get_self, gr]; rfl, by rw [DS.upd_wr]; exact wr, hin.sl.keep (Ext.upd (F := [r]) (.inl (by simp))) (fun k hk e => hin.ne (List.mem_singleton.1 e ▸ hk)), hin.ne⟩, X1.trans' (Ext.upd (.inl (by simp))), hb1⟩
     simp (maxSteps := 4000000) (maxDischargeDepth := 8) only [zr, zh, zx, zV, ZA, ze, Zx, Ze, Zg, zi, Zf, zm, zq, ZH, ZB, zC, zu, zg, zp, zY, zk, zI, Zd, zP, YB, zS, zQ, Zl, Zz, zt, z7, Zb, zH, zl, zj, zf, zy, zd, zc, z0, z1, zw, zG, zL, Cells.get, getN, Nat.zero_add, Nat.reduceAdd, Zh, XV, List.length_cons, List.length_nil, allOne, zJ, Bool.and_self, Bool.and_true, Nat.beq_eq, Nat.ble_eq, Nat.le_refl, if_true, DS.wrC, Cells.size, Cells.fillFrom, Cells.set, Zj, DS.upd_get_self, Option.map_some, decide_true, decide_false, zX, Nat.reduceLT, Nat.lt_add_one, Nat.succ_pos, g0, g1, g2, g7, g12, g13, g14, gr, wr, e1, hi, f1, f2]
     exact fin
   · cases hbad : (tk size (bs, bad)).2.2 with
     | true =>
      have hrd : rdN size most (bs, bad) = (0, (tk size (bs, bad)).2) := by unfold rdN; rw [if_pos hbad]
      rw [hbad] at gr
      rw [hrd] at hQ
      have fin : Q (.int .i64 0, s2) := hQ _ ⟨bv', rfl, hin, X1, hb1⟩
      by_cases c8 : size < 8
      · have f1 : (size : Int) < 8 := by omega
        have hi := hi c8
        have f2 : ¬ most < leV ll := fun h => cA ⟨c8, h⟩
        simp (maxSteps := 4000000) only [zr, zh, zx, zM, zV, ZA, ze, Zx, Ze, Zg, zi, Zf, zm, zq, ZH, ZB, zC, zu, zg, zp, zk, zI, Zd, zP, YB, zS, zQ, Zl, zt, z7, Zb, zH, zl, zj, zf, zd, zc, Nat.reduceEqDiff, z0, z1, zw, zG, zL, Cells.get, getN, Nat.zero_add, if_true, reduceCtorEq, decide_true, decide_false, g0, g1, g2, g7, g12, g13, g14, gr, wr, e1, hi, f1, f2]
        exact fin
      · have f1 : ¬ (size : Int) < 8 := by omega
        simp (maxSteps := 4000000) only [zr, zh, zx, zM, zV, ZA, ze, Zx, Ze, Zg, zi, Zf, zm, zq, ZH, XM, zC, zu, zg, zp, zk, zI, Zd, zP, zS, zQ, Zl, zt, z7, Zb, zH, zl, zj, zf, zd, zc, Nat.reduceEqDiff, z0, z1, zw, zG, zL, Cells.get, getN, Nat.zero_add, if_true, if_false, reduceCtorEq, z3, List.nil_append, decide_false, g0, g1, g2, g7, g12, g13, g14, gr, wr, e1, f1]
        exact fin
     | false =>
      have hrd : rdN size most (bs, bad) = (zE .i64 (leV ll), (tk size (bs, bad)).2) := by
       unfold rdN
       rw [if_neg (by rw [hbad]; simp), ← hll, if_neg cA]
      rw [hbad] at gr
      rw [hrd] at hQ
      have fin : Q (.int .i64 (zE .i64 (leV ll)), s2) := hQ _ ⟨bv', rfl, hin, X1, hb1⟩
      by_cases c8 : size < 8
      · have f1 : (size : Int) < 8 := by omega
        have hi := hi c8
        have f2 : ¬ most < leV ll := fun h => cA ⟨c8, h⟩
        rw [hi] at fin
        simp (maxSteps := 4000000) only [zr, zh, zx, zM, zV, ZA, ze, Ze, Zg, zi, Zf, zm, zq, ZH, ZB, zu, zg, zp, zk, zI, Zd, zP, YB, zS, zQ, Zl, zt, z7, Zb, zH, zl, zj, zf, zd, zc, Nat.reduceEqDiff, z0, z1, zw, zG, zL, Cells.get, getN, Nat.zero_add, if_true, reduceCtorEq, decide_true, decide_false, g0, g1, g2, g7, g12, g13, g14, gr, wr, e1, hi, f1, f2]
        exact fin
      · have f1 : ¬ (size : Int) < 8 := by omega
        simp (maxSteps := 4000000) only [zr, zh, zx, zM, zV, ZA, ze, Ze, Zg, zi, Zf, zm, zq, ZH, XM, zu, zg, zp, zk, zI, Zd, zP, YB, zS, zQ, Zl, zt, z7, Zb, zH, zl, zj, zf, zd, zc, Nat.reduceEqDiff, z0, z1, zw, zG, zL, Cells.get, getN, Nat.zero_add, if_true, if_false, reduceCtorEq, z3, List.nil_append, decide_false, g0, g1, g2, g7, g12, g13, g14, gr, wr, e1, f1]
        exact fin
theorem FN {b1 b2 size : Nat} {most : Int} (hs : size ≤ 8) (hm : 0 ≤ most) :
 Jj E 3 (.func (.func 94) #[] #[.pointer (some ⟨b1, 0, none⟩), .pointer (some ⟨b2, 0, none⟩)]) [(b1, .cells (.list [.int .i64 (size : Int)]) false), (b2, .cells (.list [.int .i64 most]) false)] Kz (rdN size most) := by
 intro d s r bv bs bad hD hb h hB hl hG
 have g1 := hD _ (List.mem_cons_self ..)
 have g2 := hD (b2, _) (List.mem_cons_of_mem _ (List.mem_cons_self ..))
 simp only at g1 g2
 refine Zw fun Q hQ => ?_
 rw [Wm hC.inum2 hC.fnum2 rfl]
 simp (maxSteps := 4000000) only [zr, zh, ze, zi, zm, zq, zg, zp, zk, zI, Zl, zF, zl, zj, zB, zf, zd, zc, Nat.reduceEqDiff, z0, zn, List.getElem?_cons_zero, List.getElem?_cons_succ, z1, z4, z5, zL, Cells.get, getN, reduceCtorEq, List.nil_append, List.cons_append, pp, pv, d94, g1, g2]
 refine W.mono (PO hC h hG hB hl hs hm) ?_
 rintro ⟨v3, s3⟩ h3
 simp (maxSteps := 4000000) only [zV, ze, zi, zm, zq, zg, zk, zI, zH, zl, zf, zd, z1, zw, zG]
 exact hQ _ h3
end
theorem CH {E : Env} {f1 f2 : Nat} {fp fg gp gg : Value} {α β : Type} {n : Nat} {Df Dg : List (Nat × DObj)} {Ra : Nat → DS → Value → α → Prop} {Rb : Nat → DS → Value → β → Prop} {ra : RS → α × RS} {rb : RS → β × RS}
 (ha : Jj E n fg Df Ra ra) (hb : Jj E n gg Dg Rb rb) (sa : Fv Ra) (sb : Fv Rb) (oa : Vx ra) (ca : ∀ o s v x, Ra o s v x → (∃ n, v = .int .i64 n)) (cb : ∀ o s v x, Rb o s v x → (∃ n, v = .int .i64 n)) (hcode : E.fn 82 = some d82) (hintr : E.intr 82 = none) :
 Jj E (n + 1) (.func (.func 82) #[] #[.pointer (some ⟨f1, 0, none⟩), .pointer (some ⟨f2, 0, none⟩)]) ((f1, .cells (.list [fp, fg]) false) :: (f2, .cells (.list [gp, gg]) false) :: (Df ++ Dg)) (DE Ra Rb) (rdP ra rb) := by
 intro d s r bv bs bad hD hb2 h hB hl hG
 have g1 := hD _ (List.mem_cons_self ..)
 have g2 := hD (f2, _) (List.mem_cons_of_mem _ (List.mem_cons_self ..))
 have l1 := hb2 _ (List.mem_cons_self ..)
 have l2 := hb2 (f2, _) (List.mem_cons_of_mem _ (List.mem_cons_self ..))
 simp only at g1 g2 l1 l2
 have hDf : Qi s Df := hD.sub fun p hp => List.mem_cons_of_mem _ (List.mem_cons_of_mem _ (List.mem_append_left _ hp))
 have hDg : Qi s Dg := hD.sub fun p hp => List.mem_cons_of_mem _ (List.mem_cons_of_mem _ (List.mem_append_right _ hp))
 have lf : ∀ p, p ∈ Df → p.1 ≠ r := fun p hp => hb2 p (List.mem_cons_of_mem _ (List.mem_cons_of_mem _ (List.mem_append_left _ hp)))
 have lg : ∀ p, p ∈ Dg → p.1 ≠ r := fun p hp => hb2 p (List.mem_cons_of_mem _ (List.mem_cons_of_mem _ (List.mem_append_right _ hp)))
 have hrl := DS.get_lt' h.gr
 have l1s := DS.get_lt' g1
 have l2s := DS.get_lt' g2
 refine Zw fun Q hQ => ?_
 show W (dcall E ((d + n) + 1) _ _ _) Q
 rw [Wm hintr hcode rfl]
 simp (maxSteps := 4000000) (maxDischargeDepth := 8) only [zr, zh, ze, zi, zm, zq, zg, zp, zk, zI, zQ, Zl, Zi, zF, zt, zl, zf, zd, zc, z0, zn, List.getElem?_cons_zero, List.getElem?_cons_succ, z1, z4, z5, zL, Cells.get, getN, Nat.zero_add, List.nil_append, List.cons_append, pp, pv, zz, zX, Nat.reduceLT, Nat.lt_add_one, Nat.succ_pos, d82, g1, g2, hG, l1s, l2s]
 obtain ⟨S1, hS1⟩ : ∃ S1 : DS, S1 = s.new (.cells (.list [.int .i64 0, .int .i64 0]) false) := ⟨_, rfl⟩
 rw [← hS1]
 have X1 : ∀ F, Ext F s S1 := fun F => by rw [hS1]; exact Ext.new
 have nS : S1.next = s.next + 1 := by rw [hS1]; rfl
 have gS : S1.get s.next = some (.cells (.list [.int .i64 0, .int .i64 0]) false) := by rw [hS1]; exact DS.new_get_self hG
 have wS : S1.wr s.next = true := (X1 []).wrs (hG _ (Nat.le_refl _)).2
 have I1 : Vz S1 r bv bs bad := h.keep (X1 []) (by simp) (by simp)
 have GS := (X1 []).good hG
 refine W.mono (ha d S1 r bv bs bad (hDf.keep (X1 []) (by simp)) lf I1 hB hl GS) ?_
 rintro ⟨v2, s2⟩ ⟨bv2, R2, I2, X2, b2⟩
 simp only at R2 I2 X2 b2
 have G2 := X2.good GS
 have le2 := X2.le
 obtain ⟨k, hk⟩ := oa.suf (bs, bad)
 have g22 := X2.keep ((X1 []).keep g2 (by simp)) (by simp; exact l2)
 have gS2 := X2.keep gS (by simp; omega)
 have wS2 := X2.wrs wS
 have hca := ca _ _ _ _ R2
 obtain ⟨a, rfl⟩ := hca
 simp (maxSteps := 4000000) only [zr, zh, ze, zi, zm, zq, zg, zp, zk, zI, zQ, Zl, zF, zt, zl, zf, zd, zc, Nat.reduceEqDiff, z0, zn, List.getElem?_cons_zero, List.getElem?_cons_succ, z1, z4, z5, zL, Cells.get, getN, Nat.zero_add, reduceCtorEq, g22]
 refine W.mono (hb d s2 r bv2 _ _ ((hDg.keep (X1 []) (by simp)).keep X2 fun p hp => by simp; exact lg p hp) lg I2 (by rw [hk]; exact hB.drop k) (by rw [hk]; simp; omega) G2) ?_
 rintro ⟨v3, s3⟩ ⟨bv3, R3, I3, X3, b3⟩
 simp only at R3 I3 X3 b3
 have le3 := X3.le
 have gS3 := X3.keep gS2 (by simp; omega)
 have wS3 := X3.wrs wS2
 have hcb := cb _ _ _ _ R3
 obtain ⟨b, rfl⟩ := hcb
 have hblt : ∀ k, k ∈ blk bv3 → k < s.next := fun k hk => h.sl.lt k (b2 k (b3 k hk))
 have U : ∀ o F, Ext (s.next :: F) s3 (s3.upd s.next o) := fun o F => Ext.upd (.inl (by simp))
 have lo : s.next < s3.next := by omega
 simp (maxSteps := 4000000) (maxDischargeDepth := 8) only [zV, ze, zi, zm, zq, zg, zY, YA, zk, Yf, Zz, Zo, zH, zl, zf, zy, zd, zc, z0, z1, zw, zG, Cells.get, getN, Nat.zero_add, Nat.reduceAdd, Zh, zZ, zO, List.length_cons, List.length_nil, allOne, zJ, Bool.and_self, Bool.and_true, Bool.and_eq_true, Nat.beq_eq, Nat.ble_eq, Nat.reduceLeDiff, Nat.le_refl, and_self, if_true, DS.wrC, Cells.size, Cells.fillFrom, Cells.set, Zj, z6, List.take_zero, List.take_succ_cons, List.drop_succ_cons, List.drop_zero, List.nil_append, List.cons_append, List.drop_nil, List.append_nil, DS.upd_get_self, Option.map_some, DS.read, Cells.take, zX, Nat.reduceLT, Nat.lt_add_one, gS3, wS3, lo, X3.good G2]
 refine hQ _ ⟨bv3, ⟨_, _, rfl, sa.mono _ _ _ _ _ (sa.stab _ _ _ _ _ _ (sa.stab _ _ _ _ _ _ R2 X3 (by simp; omega)) (U _ []) (by simp; omega)) (by omega), sb.mono _ _ _ _ _ (sb.stab _ _ _ _ _ _ R3 (U _ []) (by simp; omega)) (by omega)⟩, I3.keep (U _ []) (by simp; omega) (fun k hk => by have := hblt k hk; simp; omega), ?_, fun k hk => b2 k (b3 k hk)⟩
 exact ((X1 _).trans' (X2.trans' X3)).trans (U _ []) (by simp)
theorem CJ {E : Env} {f1 f2 : Nat} {fp fg gp gg : Value} {α β : Type} {n : Nat} {Df Dg : List (Nat × DObj)} {Ra : Nat → DS → Value → α → Prop} {Rb : Nat → DS → Value → β → Prop} {ra : RS → α × RS} {rb : RS → β × RS}
 (ha : Jj E n fg Df Ra ra) (hb : Jj E n gg Dg Rb rb) (sa : Fv Ra) (sb : Fv Rb) (oa : Vx ra) (ca : ∀ o s v x, Ra o s v x → (∃ n, v = .int .i64 n)) (cb : ∀ o s v x, Rb o s v x → (∃ b n c, v = .slice b n c)) (hcode : E.fn 77 = some d77) (hintr : E.intr 77 = none) :
 Jj E (n + 1) (.func (.func 77) #[] #[.pointer (some ⟨f1, 0, none⟩), .pointer (some ⟨f2, 0, none⟩)]) ((f1, .cells (.list [fp, fg]) false) :: (f2, .cells (.list [gp, gg]) false) :: (Df ++ Dg)) (DE Ra Rb) (rdP ra rb) := by
 intro d s r bv bs bad hD hb2 h hB hl hG
 have g1 := hD _ (List.mem_cons_self ..)
 have g2 := hD (f2, _) (List.mem_cons_of_mem _ (List.mem_cons_self ..))
 have l1 := hb2 _ (List.mem_cons_self ..)
 have l2 := hb2 (f2, _) (List.mem_cons_of_mem _ (List.mem_cons_self ..))
 simp only at g1 g2 l1 l2
 have hDf : Qi s Df := hD.sub fun p hp => List.mem_cons_of_mem _ (List.mem_cons_of_mem _ (List.mem_append_left _ hp))
 have hDg : Qi s Dg := hD.sub fun p hp => List.mem_cons_of_mem _ (List.mem_cons_of_mem _ (List.mem_append_right _ hp))
 have lf : ∀ p, p ∈ Df → p.1 ≠ r := fun p hp => hb2 p (List.mem_cons_of_mem _ (List.mem_cons_of_mem _ (List.mem_append_left _ hp)))
 have lg : ∀ p, p ∈ Dg → p.1 ≠ r := fun p hp => hb2 p (List.mem_cons_of_mem _ (List.mem_cons_of_mem _ (List.mem_append_right _ hp)))
 have hrl := DS.get_lt' h.gr
 have l1s := DS.get_lt' g1
 have l2s := DS.get_lt' g2
 refine Zw fun Q hQ => ?_
 show W (dcall E ((d + n) + 1) _ _ _) Q
 rw [Wm hintr hcode rfl]
 simp (maxSteps := 4000000) (maxDischargeDepth := 8) only [zr, zh, ze, zi, zm, zq, zg, zp, zk, zI, zQ, Zl, Zi, zF, zt, zl, zf, zd, zc, z0, zn, List.getElem?_cons_zero, List.getElem?_cons_succ, z1, z4, z5, zL, Cells.get, getN, Nat.zero_add, List.nil_append, List.cons_append, pp, pv, zz, zX, Nat.reduceLT, Nat.lt_add_one, Nat.succ_pos, d77, g1, g2, hG, l1s, l2s]
 obtain ⟨S1, hS1⟩ : ∃ S1 : DS, S1 = s.new (.cells (.list [.int .i64 0, .slice none 0 0]) false) := ⟨_, rfl⟩
 rw [← hS1]
 have X1 : ∀ F, Ext F s S1 := fun F => by rw [hS1]; exact Ext.new
 have nS : S1.next = s.next + 1 := by rw [hS1]; rfl
 have gS : S1.get s.next = some (.cells (.list [.int .i64 0, .slice none 0 0]) false) := by rw [hS1]; exact DS.new_get_self hG
 have wS : S1.wr s.next = true := (X1 []).wrs (hG _ (Nat.le_refl _)).2
 have I1 : Vz S1 r bv bs bad := h.keep (X1 []) (by simp) (by simp)
 have GS := (X1 []).good hG
 refine W.mono (ha d S1 r bv bs bad (hDf.keep (X1 []) (by simp)) lf I1 hB hl GS) ?_
 rintro ⟨v2, s2⟩ ⟨bv2, R2, I2, X2, b2⟩
 simp only at R2 I2 X2 b2
 have G2 := X2.good GS
 have le2 := X2.le
 obtain ⟨k, hk⟩ := oa.suf (bs, bad)
 have g22 := X2.keep ((X1 []).keep g2 (by simp)) (by simp; exact l2)
 have gS2 := X2.keep gS (by simp; omega)
 have wS2 := X2.wrs wS
 have hca := ca _ _ _ _ R2
 obtain ⟨a, rfl⟩ := hca
 simp (maxSteps := 4000000) only [zr, zh, ze, zi, zm, zq, zg, zp, zk, zI, zQ, Zl, zF, zt, zl, zf, zd, zc, Nat.reduceEqDiff, z0, zn, List.getElem?_cons_zero, List.getElem?_cons_succ, z1, z4, z5, zL, Cells.get, getN, Nat.zero_add, reduceCtorEq, g22]
 refine W.mono (hb d s2 r bv2 _ _ ((hDg.keep (X1 []) (by simp)).keep X2 fun p hp => by simp; exact lg p hp) lg I2 (by rw [hk]; exact hB.drop k) (by rw [hk]; simp; omega) G2) ?_
 rintro ⟨v3, s3⟩ ⟨bv3, R3, I3, X3, b3⟩
 simp only at R3 I3 X3 b3
 have le3 := X3.le
 have gS3 := X3.keep gS2 (by simp; omega)
 have wS3 := X3.wrs wS2
 have hcb := cb _ _ _ _ R3
 obtain ⟨y1, y2, y3, rfl⟩ := hcb
 have hblt : ∀ k, k ∈ blk bv3 → k < s.next := fun k hk => h.sl.lt k (b2 k (b3 k hk))
 have U : ∀ o F, Ext (s.next :: F) s3 (s3.upd s.next o) := fun o F => Ext.upd (.inl (by simp))
 have lo : s.next < s3.next := by omega
 simp (maxSteps := 4000000) (maxDischargeDepth := 8) only [zV, ze, zi, zm, zq, zg, zY, YA, zk, Yf, Zz, Zo, zH, zl, zf, zy, zd, zc, z0, z1, zw, zG, Cells.get, getN, Nat.zero_add, Nat.reduceAdd, Zh, zZ, Zy, zO, List.length_cons, List.length_nil, allOne, zJ, Bool.and_self, Bool.and_true, Bool.and_eq_true, Nat.beq_eq, Nat.ble_eq, Nat.reduceLeDiff, Nat.le_refl, and_self, if_true, DS.wrC, Cells.size, Cells.fillFrom, Cells.set, Zj, z6, List.take_zero, List.take_succ_cons, List.drop_succ_cons, List.drop_zero, List.nil_append, List.cons_append, List.drop_nil, List.append_nil, DS.upd_get_self, Option.map_some, DS.read, Cells.take, zX, Nat.reduceLT, Nat.lt_add_one, gS3, wS3, lo, X3.good G2]
 refine hQ _ ⟨bv3, ⟨_, _, rfl, sa.mono _ _ _ _ _ (sa.stab _ _ _ _ _ _ (sa.stab _ _ _ _ _ _ R2 X3 (by simp; omega)) (U _ []) (by simp; omega)) (by omega), sb.mono _ _ _ _ _ (sb.stab _ _ _ _ _ _ R3 (U _ []) (by simp; omega)) (by omega)⟩, I3.keep (U _ []) (by simp; omega) (fun k hk => by have := hblt k hk; simp; omega), ?_, fun k hk => b2 k (b3 k hk)⟩
 exact ((X1 _).trans' (X2.trans' X3)).trans (U _ []) (by simp)
theorem TK {size : Nat} {most : Int} (st : RS) (hB : IsB st.1) (h8 : size < 8) (hm : 0 ≤ most) : 0 ≤ (rdN size most st).1 ∧ (rdN size most st).1 ≤ most := by
 cases h : (rdN size most st).2.2 with
 | false =>
  obtain ⟨_, h2, h3, h4⟩ := Pz h
  have hr := JX (hB.take size)
  have hl : (st.1.take size).length = size := by rw [List.length_take]; omega
  rw [hl] at hr
  have h7 := C7 (j := size) (by omega)
  rw [h3]
  have h4 := h4 h8
  show 0 ≤ zE .i64 _ ∧ zE .i64 _ ≤ most
  rw [zR (by omega) (by omega)]
  exact ⟨hr.1, h4⟩
 | true =>
  unfold rdN at h ⊢
  split
  · exact ⟨Int.le_refl _, hm⟩
  · rename_i h1
    rw [if_neg h1] at h
    split
    · exact ⟨Int.le_refl _, hm⟩
    · rename_i h2
      rw [if_neg h2] at h
      exact absurd h h1
structure Nf {α : Type} (s0 : DS) (r f1 : Nat) (bv : Value) (row : α → List Value) (rd : RS → α × RS) (L : Nat) (tot : List α × RS) (n : Nat) (y : St) : Prop where
 ex : ∃ (l : List α) (st : RS) (lv bv' : Value), y.defers = [] ∧ (y.t.get 0 = some (.pointer (some ⟨r, 0, none⟩)) ∧ y.t.get 2 = some (.pointer (some ⟨f1, 0, none⟩)) ∧ y.t.get 5 = some lv ∧ y.t.get 6 = some (.int .i64 (n : Int))) ∧
  SlC y.s 2 lv (l.map row) ∧ (∀ k, k ∈ blk lv → s0.next ≤ k) ∧ Vz y.s r bv' st.1 st.2 ∧ (∀ k, k ∈ blk bv' → k ∈ blk bv) ∧ Ext [r] s0 y.s ∧ y.s.Good ∧ IsB st.1 ∧ st.1.length ≤ L ∧ Wb rd n l st = tot ∧ l.length + n ≤ 4096
theorem Cu {E : Env} {c1 f1 : Nat} {cp cg fp fg : Value} {α : Type} {n : Nat} {Dc Df : List (Nat × DObj)} {R : Nat → DS → Value → α → Prop} {rd : RS → α × RS} {row : α → List Value}
 (hc : Jj E n cg Dc Kz (rdN 2 4096)) (hf : Jj E n fg Df R rd) (oR : Vx rd) (hrow : ∀ o s v x, R o s v x → v = .agg ⟨row x⟩) (hsh : ∀ x, (∃ a b, row x = [.int .i64 a, .int .i64 b])) (hlf : 5000 ≤ E.lf) (hcode : E.fn 80 = some d80) (hintr : E.intr 80 = none) :
 Jj E (n + 1) (.func (.func 80) #[] #[.pointer (some ⟨c1, 0, none⟩), .pointer (some ⟨f1, 0, none⟩)]) ((c1, .cells (.list [cp, cg]) false) :: (f1, .cells (.list [fp, fg]) false) :: (Dc ++ Df)) (PR 2 row) (rdL rd) := by
 intro d s r bv bs bad hD hb2 h hB hl hG
 have g1 := hD _ (List.mem_cons_self ..)
 have g2 := hD (f1, _) (List.mem_cons_of_mem _ (List.mem_cons_self ..))
 have l1 := hb2 _ (List.mem_cons_self ..)
 have l2 := hb2 (f1, _) (List.mem_cons_of_mem _ (List.mem_cons_self ..))
 simp only at g1 g2 l1 l2
 have hDc : Qi s Dc := hD.sub fun p hp => List.mem_cons_of_mem _ (List.mem_cons_of_mem _ (List.mem_append_left _ hp))
 have hDf : Qi s Df := hD.sub fun p hp => List.mem_cons_of_mem _ (List.mem_cons_of_mem _ (List.mem_append_right _ hp))
 have lc : ∀ p, p ∈ Dc → p.1 ≠ r := fun p hp => hb2 p (List.mem_cons_of_mem _ (List.mem_cons_of_mem _ (List.mem_append_left _ hp)))
 have lf : ∀ p, p ∈ Df → p.1 ≠ r := fun p hp => hb2 p (List.mem_cons_of_mem _ (List.mem_cons_of_mem _ (List.mem_append_right _ hp)))
 have hrl := DS.get_lt' h.gr
 have l2s := DS.get_lt' g2
 refine Zw fun Q hQ => ?_
 show W (dcall E ((d + n) + 1) _ _ _) Q
 rw [Wm hintr hcode rfl]
 simp (maxSteps := 4000000) only [zr, zh, ze, zi, zm, zq, zg, zp, zk, zI, zQ, Zl, zF, zt, zl, zj, zf, zd, zc, Nat.reduceEqDiff, z0, zn, List.getElem?_cons_zero, List.getElem?_cons_succ, z1, z4, z5, zL, Cells.get, getN, Nat.zero_add, reduceCtorEq, List.nil_append, List.cons_append, pp, pv, pw, pg, d80, g1]
 refine W.mono (hc d s r bv bs bad hDc lc h hB hl hG) ?_
 rintro ⟨v1, s1⟩ ⟨bv1, R1, I1, X1, b1⟩
 simp only at R1 I1 X1 b1
 have R1 : v1 = _ := R1
 subst R1
 have hrg := TK (size := 2) (most := 4096) (bs, bad) hB (by decide) (by decide)
 obtain ⟨k, hk⟩ := (Qx 2 4096).suf (bs, bad)
 obtain ⟨st1, hst1⟩ : ∃ st1, st1 = (rdN 2 4096 (bs, bad)).2 := ⟨_, rfl⟩
 obtain ⟨N, hN⟩ : ∃ N : Nat, ((N : Nat) : Int) = (rdN 2 4096 (bs, bad)).1 := ⟨(rdN 2 4096 (bs, bad)).1.toNat, Int.toNat_of_nonneg hrg.1⟩
 have htot : Wb rd N [] st1 = rdL rd (bs, bad) := by
  unfold rdL
  rw [← hN, Int.toNat_natCast, hst1]
 rw [← hN] at hrg ⊢
 rw [← hst1] at I1 hk
 simp (maxSteps := 4000000) only [zN, ze, zi, zm, zq, zg, zI, zl, zf, zd, z1]
 refine ZP (Nf s r f1 bv row rd bs.length (rdL rd (bs, bad))) N (by omega) ⟨[], st1, .slice none 0 0, bv1, rfl, ?_, SlC.nil, by simp [blk], I1, b1, X1, X1.good hG, by rw [hk]; exact hB.drop k, by rw [hk]; simp, htot, by simp; omega⟩ ?_
 · simp (maxSteps := 4000000) only [zd, zc, Nat.reduceEqDiff, z0, zn, List.getElem?_cons_zero, List.getElem?_cons_succ, Bool.and_self, and_self, reduceCtorEq]
 rintro m ⟨t, S, ds⟩ hm ⟨l, st, lv, bv2, hds, ⟨t0, t2, t5, t6⟩, sk, bk, I2, b2, X2, G2, hB2, hL2, htot2, hlen⟩
 simp only at hds t0 t2 t5 t6 sk bk I2 X2 G2
 subst hds
 have gr := I2.gr
 have le2 := X2.le
 have g2S := X2.keep g2 (by simp; exact l2)
 have done : Wb rd m l st = (l, st) → Q (lv, S) := fun he => by
  rw [← htot2, he] at hQ
  exact hQ _ ⟨bv2, ⟨sk, bk⟩, I2, X2, b2⟩
 cases m with
 | zero =>
  have := done rfl
  have e0 : ¬ (0 : Int) < ((0 : Nat) : Int) := by omega
  simp (maxSteps := 4000000) only [zr, zh, zx, zV, ZA, ze, Ze, Zg, zi, Zf, zm, zq, ZH, XM, zu, zg, zp, zk, zI, Zd, zP, zt, z7, Zb, zH, zl, zj, zf, zd, zc, Nat.reduceEqDiff, z0, z1, zw, zG, if_true, if_false, z3, List.nil_append, decide_false, t0, t2, t5, t6, e0]
  exact this
 | succ m =>
  have e1 : (0 : Int) < ((m + 1 : Nat) : Int) := by omega
  cases hst : st.2 with
  | true =>
   have := done (Ga _ _ _ hst)
   rw [hst] at gr
   simp (maxSteps := 4000000) only [zr, zh, zx, zV, ZA, ze, Ze, Zg, zi, Zf, zm, zq, ZH, ZB, zu, zg, zp, zk, zI, Zd, zP, Qn, zS, zQ, Zl, zt, z7, Zb, zH, zl, zj, zf, zd, zc, Nat.reduceEqDiff, z0, z1, zw, zG, zL, Cells.get, getN, Nat.zero_add, if_true, reduceCtorEq, Bool.not_true, decide_true, t0, t2, t5, t6, gr, e1]
   exact this
  | false =>
   rw [hst] at gr I2
   have hl2 := DS.get_lt' gr
   simp (maxSteps := 4000000) only [zr, zh, zx, zN, zM, ze, zi, zm, zq, ZH, ZB, zC, zg, zp, zk, zI, Zd, zP, Qn, zS, zQ, Zl, zF, zt, z7, Zb, zl, zj, zf, zd, zc, Nat.reduceEqDiff, z0, z1, z4, z5, zL, Cells.get, getN, Nat.zero_add, if_true, reduceCtorEq, Bool.not_false, decide_true, t0, t2, t5, t6, gr, e1, g2S]
   refine W.mono (hf d S r bv2 st.1 false (hDf.keep X2 fun p hp => by simp; exact lf p hp) lf I2 hB2 (by omega) G2) ?_
   rintro ⟨v3, s3⟩ ⟨bv3, R3, I3, X3, b3⟩
   simp only at R3 I3 X3 b3
   have hstE : (st.1, false) = st := Prod.ext rfl hst.symm
   rw [hstE] at R3 I3
   obtain ⟨x, hx⟩ : ∃ x, x = (rd st).1 := ⟨_, rfl⟩
   rw [← hx] at R3
   have hv3 := hrow _ _ _ _ R3
   obtain ⟨xa, xb, hab⟩ := hsh x
   subst hv3
   have le3 := X3.le
   have G3 := X3.good G2
   obtain ⟨k3, hk3⟩ := oR.suf st
   obtain ⟨alv, clv, hlv⟩ := sk.shape
   simp (maxSteps := 4000000) (maxDischargeDepth := 8) only [zq, zg, ZR, zk, zl, zf, zd, zc, z0, z1, Nat.zero_add, Nat.reduceAdd, zO, List.length_cons, List.length_nil, Bool.and_self, Bool.and_eq_true, Nat.beq_eq, Nat.ble_eq, Nat.reduceLeDiff, Nat.le_refl, and_self, if_true, z6, List.take_zero, List.drop_succ_cons, List.nil_append, List.drop_nil, List.append_nil, Wl, Yk, repeatZ, Nat.reduceMul, ZR, zX, Nat.reduceLT, Nat.lt_add_one, hab, G3]
   obtain ⟨S1, hS1⟩ : ∃ S1 : DS, S1 = s3.new (.cells (.list (row x)) false) := ⟨_, rfl⟩
   rw [← hab, ← hS1]
   have X4 : ∀ F, Ext F s3 S1 := fun F => by rw [hS1]; exact Ext.new
   have n4 : S1.next = s3.next + 1 := by rw [hS1]; rfl
   have g4 : S1.get s3.next = some (.cells (.list (row x)) false) := by rw [hS1]; exact DS.new_get_self G3
   have hw : SlV S1 2 (.slice (some ⟨s3.next, 0, none⟩) 1 1) [row x] := .inr ⟨s3.next, 0, none, 1, rfl, by unfold DS.read; rw [g4, hab]; simp only [List.length_cons, List.length_nil, List.flatten_cons, List.flatten_nil, List.append_nil]; rfl⟩
   have okr : ∀ l : List α, ZI 2 (l.map row) := fun l => ⟨fun y hy => by
    obtain ⟨z, _, rfl⟩ := List.mem_map.1 hy
    obtain ⟨za, zb, hab⟩ := hsh z
    rw [hab]; rfl, fun y hy => by
    obtain ⟨z, _, rfl⟩ := List.mem_map.1 hy
    obtain ⟨za, zb, hab⟩ := hsh z
    rw [hab]; rfl⟩
   have hlm : (l.map row).length = l.length := List.length_map ..
   refine W.mono (Qm ((sk.keep X3 fun k hk => by have := bk k hk; simp; omega).keep (X4 []) (by simp)) hw (okr l) (okr [x]) ((X4 []).good G3) (by rw [hlm]; simp; omega) (by rw [hlm]; simp; omega)) ?_
   rintro ⟨lv4, S4⟩ ⟨sk4, X5, b5, _⟩
   simp only at sk4 X5 b5
   have w2 : zE .i64 (((m + 1 : Nat) : Int) - 1) = (m : Int) := by rw [zR (by omega) (by omega)]; omega
   simp (maxSteps := 4000000) only [zh, ze, zK, zi, zW, zm, zq, zg, zp, zk, zI, zP, z7, Zb, zl, zj, zf, zd, zc, Nat.reduceEqDiff, z0, z1, if_true, t0, t2, t5, t6, w2]
   have X6 : Ext [r] s S4 := ((X2.trans' X3).trans' (X4 _)).trans X5 fun k hk => .inr (bk k hk)
   have hblt : ∀ k, k ∈ blk bv3 → k < s.next := fun k hk => h.sl.lt k (b2 k (b3 k hk))
   refine ⟨m, by omega, ⟨l ++ [x], (rd st).2, lv4, bv3, rfl, by simp (maxSteps := 4000000) only [zd, zc, Nat.reduceEqDiff, z0, Bool.and_self, and_self, reduceCtorEq, t0, t2], ?_, fun k hk => ?_, (I3.keep (X4 []) (by simp) (by simp)).keep X5 (fun hk => by have := bk _ hk; omega) (fun k hk hk2 => by have := bk _ hk2; have := hblt _ hk; omega), fun k hk => b2 k (b3 k hk), X6, X6.good hG, by rw [hk3]; exact hB2.drop k3, by rw [hk3]; simp; omega, ?_, by simp; omega⟩⟩
   · rw [List.map_append]
     exact sk4
   · rcases b5 k hk with h | h
     · exact bk k h
     · omega
   · rw [← htot2, Wb, if_neg (by rw [hst]; simp), hx]
section
variable {E : Env} (hC : R8 E) (hP : Ch E) {s : DS} {d : Nat}
include hC hP
theorem FO (hG : s.Good) {m : Nat} (hm : m ≤ s.next) (hcode : E.fn 57 = some d57) (hintr : E.intr 57 = none) :
 W (dcall E (d + 2) (.func (.func 57) #[] #[]) [] s) fun r => YT E 3 m r.2 r.1 Kz (rdN 2 65535) ∧ Ext [] s r.2 := by
 refine Zw fun Q hQ => ?_
 rw [zT hintr hcode rfl]
 simp (maxSteps := 4000000) (maxDischargeDepth := 8) only [zr, zh, ze, zi, zm, zq, zg, Zi, zF, zj, zB, zf, z4, z5, pp, d57, hG]
 refine W.mono (K3 hP (DS.new_good hG) _ _) ?_
 rintro ⟨v2, s2⟩ ⟨hv2, n1, n2, X2, hn2⟩
 simp only [DS.new_next] at hv2 n1 n2 X2 hn2
 subst hv2
 have T0 := X2.keep (DS.new_get_self (o := .cells (.list [.nilFunc, .nilFunc]) false) hG) (by simp)
 have wT := X2.wrs (show (s.new (.cells (.list [.nilFunc, .nilFunc]) false)).wr s.next = true from (hG _ (Nat.le_refl _)).2)
 simp (maxSteps := 4000000) (maxDischargeDepth := 8) only [zV, ze, zi, zm, zq, zg, zY, zk, Zz, Zo, zH, zl, zf, zy, zd, zc, z0, z1, zw, zG, Cells.get, getN, Nat.zero_add, Nat.reduceAdd, Zh, zO, List.length_cons, List.length_nil, allOne, zJ, Bool.and_self, Bool.and_true, Nat.beq_eq, Nat.ble_eq, Nat.le_refl, if_true, DS.wrC, Cells.size, Cells.fillFrom, Cells.set, Zj, DS.upd_get_self, Option.map_some, DS.read, Cells.take, zX, Nat.add_assoc, Nat.lt_add_one, T0, wT]
 have X3 : ∀ o, Ext [] s (s2.upd s.next o) := fun o => (Ext.new.trans' X2).trans (Ext.upd (F := [s.next]) (.inl (by simp))) (by simp)
 refine hQ _ ⟨⟨_, _, _, _, _, _, [(s.next + 1, .cells (.list [.int .i64 ((2 : Nat) : Int)]) false), (s.next + 2, .cells (.list [.int .i64 65535]) false)], rfl, ?_, ?_, FN hC (by omega) (by omega)⟩, X3 _⟩
 · intro p hp
   rcases List.mem_cons.1 hp with rfl | hp
   · simp (maxSteps := 4000000) (maxDischargeDepth := 8) only [z0, DS.upd_get_ne, n1, show ¬ s.next + 1 = s.next by omega]
     rfl
   · rcases List.mem_cons.1 hp with rfl | hp
     · simp (maxSteps := 4000000) (maxDischargeDepth := 8) only [z0, DS.upd_get_ne, n2, show ¬ s.next + 2 = s.next by omega]
     · cases hp
 · intro p hp
   have : m ≤ p.1 ∧ p.1 < s2.next := by
    rcases List.mem_cons.1 hp with rfl | hp
    · show m ≤ s.next + 1 ∧ s.next + 1 < s2.next; omega
    · rcases List.mem_cons.1 hp with rfl | hp
      · show m ≤ s.next + 2 ∧ s.next + 2 < s2.next; omega
      · cases hp
   simp (maxSteps := 4000000) (maxDischargeDepth := 8) only [DS.upd_next]
   exact this
theorem KB (hG : s.Good) {m : Nat} (hm : m ≤ s.next) (hcode : E.fn 60 = some d60) (hintr : E.intr 60 = none) :
 W (dcall E (d + 2) (.func (.func 60) #[] #[]) [] s) fun r => YT E 3 m r.2 r.1 Kz (rdN 8 0) ∧ Ext [] s r.2 := by
 refine Zw fun Q hQ => ?_
 rw [zT hintr hcode rfl]
 simp (maxSteps := 4000000) (maxDischargeDepth := 8) only [zr, zh, ze, zi, zm, zq, zg, Zi, zF, zj, zB, zf, z4, z5, pp, d60, hG]
 refine W.mono (K3 hP (DS.new_good hG) _ _) ?_
 rintro ⟨v2, s2⟩ ⟨hv2, n1, n2, X2, hn2⟩
 simp only [DS.new_next] at hv2 n1 n2 X2 hn2
 subst hv2
 have T0 := X2.keep (DS.new_get_self (o := .cells (.list [.nilFunc, .nilFunc]) false) hG) (by simp)
 have wT := X2.wrs (show (s.new (.cells (.list [.nilFunc, .nilFunc]) false)).wr s.next = true from (hG _ (Nat.le_refl _)).2)
 simp (maxSteps := 4000000) (maxDischargeDepth := 8) only [zV, ze, zi, zm, zq, zg, zY, zk, Zz, Zo, zH, zl, zf, zy, zd, zc, z0, z1, zw, zG, Cells.get, getN, Nat.zero_add, Nat.reduceAdd, Zh, zO, List.length_cons, List.length_nil, allOne, zJ, Bool.and_self, Bool.and_true, Nat.beq_eq, Nat.ble_eq, Nat.le_refl, if_true, DS.wrC, Cells.size, Cells.fillFrom, Cells.set, Zj, DS.upd_get_self, Option.map_some, DS.read, Cells.take, zX, Nat.add_assoc, Nat.lt_add_one, T0, wT]
 have X3 : ∀ o, Ext [] s (s2.upd s.next o) := fun o => (Ext.new.trans' X2).trans (Ext.upd (F := [s.next]) (.inl (by simp))) (by simp)
 refine hQ _ ⟨⟨_, _, _, _, _, _, [(s.next + 1, .cells (.list [.int .i64 ((8 : Nat) : Int)]) false), (s.next + 2, .cells (.list [.int .i64 0]) false)], rfl, ?_, ?_, FN hC (by omega) (by omega)⟩, X3 _⟩
 · intro p hp
   rcases List.mem_cons.1 hp with rfl | hp
   · simp (maxSteps := 4000000) (maxDischargeDepth := 8) only [z0, DS.upd_get_ne, n1, show ¬ s.next + 1 = s.next by omega]
     rfl
   · rcases List.mem_cons.1 hp with rfl | hp
     · simp (maxSteps := 4000000) (maxDischargeDepth := 8) only [z0, DS.upd_get_ne, n2, show ¬ s.next + 2 = s.next by omega]
     · cases hp
 · intro p hp
   have : m ≤ p.1 ∧ p.1 < s2.next := by
    rcases List.mem_cons.1 hp with rfl | hp
    · show m ≤ s.next + 1 ∧ s.next + 1 < s2.next; omega
    · rcases List.mem_cons.1 hp with rfl | hp
      · show m ≤ s.next + 2 ∧ s.next + 2 < s2.next; omega
      · cases hp
   simp (maxSteps := 4000000) (maxDischargeDepth := 8) only [DS.upd_next]
   exact this
theorem GR {α β : Type} {n m : Nat} (hm : m ≤ s.next) {va vb : Value} {Ra : Nat → DS → Value → α → Prop} {Rb : Nat → DS → Value → β → Prop} {ra : RS → α × RS} {rb : RS → β × RS}
 (hG : s.Good) (ha : YT E n m s va Ra ra) (hb : YT E n m s vb Rb rb) (hcode : E.fn 59 = some d59) (hintr : E.intr 59 = none)
 (hget : ∀ {f1 f2 : Nat} {fp fg gp gg : Value} {Df Dg : List (Nat × DObj)}, Jj E n fg Df Ra ra → Jj E n gg Dg Rb rb → Jj E (n + 1) (.func (.func 82) #[] #[.pointer (some ⟨f1, 0, none⟩), .pointer (some ⟨f2, 0, none⟩)]) ((f1, .cells (.list [fp, fg]) false) :: (f2, .cells (.list [gp, gg]) false) :: (Df ++ Dg)) (DE Ra Rb) (rdP ra rb)) :
 W (dcall E (d + 1) (.func (.func 59) #[] #[]) [va, vb] s) fun r => YT E (n + 1) m r.2 r.1 (DE Ra Rb) (rdP ra rb) ∧ Ext [] s r.2 := by
 obtain ⟨f1, a1, b1, g1, p1, q1, D1, rfl, h2, h3, h4⟩ := ha
 obtain ⟨f2, a2, b2, g2, p2, q2, D2, rfl, k2, k3, k4⟩ := hb
 refine Zw fun Q hQ => ?_
 rw [zT hintr hcode rfl]
 simp (maxSteps := 4000000) (maxDischargeDepth := 8) only [zr, zh, zx, zM, zV, ze, zi, zm, zq, ZH, Zm, zu, zg, zp, zY, YA, ZD, zk, zI, Zd, Z5, Yf, Kg, zQ, Zl, Zz, Zi, Xe, zt, Zo, Zv, zH, zl, zj, zf, zy, zd, zc, z0, zn, List.getElem?_cons_zero, List.getElem?_cons_succ, z1, zw, zG, z4, z5, zL, Cells.get, getN, Nat.zero_add, Nat.reduceAdd, Zh, cells_func, zO, List.length_cons, List.length_nil, allOne, zJ, Bool.and_self, Bool.and_true, Bool.and_eq_true, Nat.beq_eq, Nat.ble_eq, Nat.reduceLeDiff, Nat.le_refl, and_self, if_true, if_false, Bool.not_false, z3, DS.wrC, Cells.size, Cells.fillFrom, Cells.set, Zj, z6, List.take_zero, List.take_succ_cons, List.drop_succ_cons, List.drop_zero, List.nil_append, List.cons_append, List.drop_nil, List.append_nil, pp, pv, pg, DS.upd_get_self, Option.map_some, zU, wrN, Nat.add_zero, DS.read, Cells.take, zo, zz, zA, ZF, zX, Zu, Nat.add_assoc, Nat.reduceLT, Nat.lt_add_one, Nat.succ_pos, d59, hG]
 have X : ∀ o1 o2 o3 o4, Ext [] s ((((s.new o1).new o2).new o3).upd (s.next + 2) o4) := fun _ _ _ _ => (Ext.new.trans' (Ext.new.trans' Ext.new)).trans (Ext.upd (F := [s.next + 2]) (.inl (by simp))) (by simp)
 refine hQ _ ⟨⟨_, _, _, _, _, _, _, rfl, ?_, ?_, hget (f1 := s.next) (f2 := s.next + 1) (fp := .func (.func f1) a1 b1) (gp := .func (.func f2) a2 b2) h4 k4⟩, X _ _ _ _⟩
 · intro p hp
   rcases List.mem_cons.1 hp with rfl | hp
   · simp (maxSteps := 4000000) (maxDischargeDepth := 8) only [z0, Nat.reduceAdd, DS.upd_get_ne, zU, zo, zz, zA, zX, Zu, Nat.add_assoc, Nat.lt_add_one, Nat.succ_pos, hG]
   · rcases List.mem_cons.1 hp with rfl | hp
     · simp (maxSteps := 4000000) (maxDischargeDepth := 8) only [z0, Nat.reduceAdd, DS.upd_get_ne, zU, zo, zz, zA, zX, Nat.add_assoc, Nat.lt_add_one, hG]
     · rcases List.mem_append.1 hp with hp | hp
       · exact (X _ _ _ _).keep (h2 p hp) (by simp)
       · exact (X _ _ _ _).keep (k2 p hp) (by simp)
 · intro p hp
   have hn : ∀ o1 o2 o3 o4, ((((s.new o1).new o2).new o3).upd (s.next + 2) o4).next = s.next + 3 := fun _ _ _ _ => by simp (maxSteps := 4000000) (maxDischargeDepth := 8) only [Nat.reduceAdd, DS.upd_next, zU, Nat.add_assoc]
   rw [hn]
   rcases List.mem_cons.1 hp with rfl | hp
   · show m ≤ s.next ∧ s.next < s.next + 3; omega
   · rcases List.mem_cons.1 hp with rfl | hp
     · show m ≤ s.next + 1 ∧ s.next + 1 < s.next + 3; omega
     · rcases List.mem_append.1 hp with hp | hp
       · have := h3 p hp; omega
       · have := k3 p hp; omega
theorem GT {α β : Type} {n m : Nat} (hm : m ≤ s.next) {va vb : Value} {Ra : Nat → DS → Value → α → Prop} {Rb : Nat → DS → Value → β → Prop} {ra : RS → α × RS} {rb : RS → β × RS}
 (hG : s.Good) (ha : YT E n m s va Ra ra) (hb : YT E n m s vb Rb rb) (hcode : E.fn 56 = some d56) (hintr : E.intr 56 = none)
 (hget : ∀ {f1 f2 : Nat} {fp fg gp gg : Value} {Df Dg : List (Nat × DObj)}, Jj E n fg Df Ra ra → Jj E n gg Dg Rb rb → Jj E (n + 1) (.func (.func 77) #[] #[.pointer (some ⟨f1, 0, none⟩), .pointer (some ⟨f2, 0, none⟩)]) ((f1, .cells (.list [fp, fg]) false) :: (f2, .cells (.list [gp, gg]) false) :: (Df ++ Dg)) (DE Ra Rb) (rdP ra rb)) :
 W (dcall E (d + 1) (.func (.func 56) #[] #[]) [va, vb] s) fun r => YT E (n + 1) m r.2 r.1 (DE Ra Rb) (rdP ra rb) ∧ Ext [] s r.2 := by
 obtain ⟨f1, a1, b1, g1, p1, q1, D1, rfl, h2, h3, h4⟩ := ha
 obtain ⟨f2, a2, b2, g2, p2, q2, D2, rfl, k2, k3, k4⟩ := hb
 refine Zw fun Q hQ => ?_
 rw [zT hintr hcode rfl]
 simp (maxSteps := 4000000) (maxDischargeDepth := 8) only [zr, zh, zx, zM, zV, ze, zi, zm, zq, ZH, Zm, zu, zg, zp, zY, YA, ZD, zk, zI, Zd, Z5, Yf, Kg, zQ, Zl, Zz, Zi, Xe, zt, Zo, Zv, zH, zl, zj, zf, zy, zd, zc, z0, zn, List.getElem?_cons_zero, List.getElem?_cons_succ, z1, zw, zG, z4, z5, zL, Cells.get, getN, Nat.zero_add, Nat.reduceAdd, Zh, cells_func, zO, List.length_cons, List.length_nil, allOne, zJ, Bool.and_self, Bool.and_true, Bool.and_eq_true, Nat.beq_eq, Nat.ble_eq, Nat.reduceLeDiff, Nat.le_refl, and_self, if_true, if_false, Bool.not_false, z3, DS.wrC, Cells.size, Cells.fillFrom, Cells.set, Zj, z6, List.take_zero, List.take_succ_cons, List.drop_succ_cons, List.drop_zero, List.nil_append, List.cons_append, List.drop_nil, List.append_nil, pp, pv, pg, DS.upd_get_self, Option.map_some, zU, wrN, Nat.add_zero, DS.read, Cells.take, zo, zz, zA, ZF, zX, Zu, Nat.add_assoc, Nat.reduceLT, Nat.lt_add_one, Nat.succ_pos, d56, hG]
 have X : ∀ o1 o2 o3 o4, Ext [] s ((((s.new o1).new o2).new o3).upd (s.next + 2) o4) := fun _ _ _ _ => (Ext.new.trans' (Ext.new.trans' Ext.new)).trans (Ext.upd (F := [s.next + 2]) (.inl (by simp))) (by simp)
 refine hQ _ ⟨⟨_, _, _, _, _, _, _, rfl, ?_, ?_, hget (f1 := s.next) (f2 := s.next + 1) (fp := .func (.func f1) a1 b1) (gp := .func (.func f2) a2 b2) h4 k4⟩, X _ _ _ _⟩
 · intro p hp
   rcases List.mem_cons.1 hp with rfl | hp
   · simp (maxSteps := 4000000) (maxDischargeDepth := 8) only [z0, Nat.reduceAdd, DS.upd_get_ne, zU, zo, zz, zA, zX, Zu, Nat.add_assoc, Nat.lt_add_one, Nat.succ_pos, hG]
   · rcases List.mem_cons.1 hp with rfl | hp
     · simp (maxSteps := 4000000) (maxDischargeDepth := 8) only [z0, Nat.reduceAdd, DS.upd_get_ne, zU, zo, zz, zA, zX, Nat.add_assoc, Nat.lt_add_one, hG]
     · rcases List.mem_append.1 hp with hp | hp
       · exact (X _ _ _ _).keep (h2 p hp) (by simp)
       · exact (X _ _ _ _).keep (k2 p hp) (by simp)
 · intro p hp
   have hn : ∀ o1 o2 o3 o4, ((((s.new o1).new o2).new o3).upd (s.next + 2) o4).next = s.next + 3 := fun _ _ _ _ => by simp (maxSteps := 4000000) (maxDischargeDepth := 8) only [Nat.reduceAdd, DS.upd_next, zU, Nat.add_assoc]
   rw [hn]
   rcases List.mem_cons.1 hp with rfl | hp
   · show m ≤ s.next ∧ s.next < s.next + 3; omega
   · rcases List.mem_cons.1 hp with rfl | hp
     · show m ≤ s.next + 1 ∧ s.next + 1 < s.next + 3; omega
     · rcases List.mem_append.1 hp with hp | hp
       · have := h3 p hp; omega
       · have := k3 p hp; omega
theorem GP {α : Type} {n m : Nat} (hm : m ≤ s.next) {v : Value} {R : Nat → DS → Value → α → Prop} {rd : RS → α × RS} {row : α → List Value}
 (hG : s.Good) (ha : YT E n m s v R rd) (hn : 3 ≤ n) (oR : Vx rd) (hrow : ∀ o s v x, R o s v x → v = .agg ⟨row x⟩) (hsh : ∀ x, (∃ a b, row x = [.int .i64 a, .int .i64 b])) (hcode : E.fn 58 = some d58) (hintr : E.intr 58 = none) (hcode1 : E.fn 80 = some d80) (hintr1 : E.intr 80 = none) :
 W (dcall E (d + 2) (.func (.func 58) #[] #[]) [v] s) fun r => YT E (n + 1) m r.2 r.1 (PR 2 row) (rdL rd) ∧ Ext [] s r.2 := by
 obtain ⟨f1, a1, b1, g1, p1, q1, D1, rfl, h2, h3, h4⟩ := ha
 refine Zw fun Q hQ => ?_
 rw [zT hintr hcode rfl]
 simp (maxSteps := 4000000) (maxDischargeDepth := 8) only [zr, zh, zx, zM, ze, zi, zm, zq, zu, zg, zp, ZD, zk, Z5, zQ, Zl, Zi, Xe, zF, zt, Zv, zl, zj, zB, zf, zd, zc, z0, zn, List.getElem?_cons_zero, z1, z4, z5, zL, Cells.get, getN, zO, if_false, Bool.not_false, z3, pp, zU, Nat.add_zero, zo, zz, zA, zX, Nat.lt_add_one, d58, hG]
 obtain ⟨S, hS⟩ : ∃ S : DS, S = (s.new (.cells (.list [.func (.func f1) a1 b1, .func (.func g1) p1 q1]) false)).new (.cells (.list [.nilFunc, .nilFunc]) false) := ⟨_, rfl⟩
 rw [← hS]
 have XS : Ext [] s S := by rw [hS]; exact Ext.new.trans' Ext.new
 have nS : S.next = s.next + 2 := by rw [hS]; simp (maxSteps := 4000000) (maxDischargeDepth := 8) only [Nat.reduceAdd, zU, Nat.add_assoc]
 have hGS := XS.good hG
 have S0 : S.get s.next = some (.cells (.list [.func (.func f1) a1 b1, .func (.func g1) p1 q1]) false) := by rw [hS]; simp (maxSteps := 4000000) (maxDischargeDepth := 8) only [zU, zo, zz, zA, Nat.lt_add_one, hG]
 have S1 : S.get (s.next + 1) = some (.cells (.list [.nilFunc, .nilFunc]) false) := by rw [hS]; simp (maxSteps := 4000000) (maxDischargeDepth := 8) only [zU, zo, zA, hG]
 have wS : S.wr (s.next + 1) = true := XS.wrs (hG _ (by omega)).2
 refine W.mono (K3 hP hGS 2 4096) ?_
 rintro ⟨v2, s2⟩ ⟨hv2, n1, n2, X2, hn2⟩
 simp only at hv2 n1 n2 X2 hn2
 subst hv2
 have hG2 := X2.good hGS
 have T1 := X2.keep S1 (by simp)
 have wT := X2.wrs wS
 have hlt : s.next + 1 < s2.next := by omega
 rw [nS] at n1 n2 hn2 ⊢
 simp (maxSteps := 4000000) (maxDischargeDepth := 8) only [zr, zh, zV, ze, zi, zm, zq, zg, zY, YA, zk, Yf, Kg, Zz, Zi, Zo, zH, zl, zf, zy, zd, zc, z0, z1, zw, zG, z4, z5, Cells.get, getN, Nat.zero_add, Nat.reduceAdd, Zh, cells_func, zO, List.length_cons, List.length_nil, allOne, zJ, Bool.and_self, Bool.and_true, Bool.and_eq_true, Nat.beq_eq, Nat.ble_eq, Nat.reduceLeDiff, Nat.le_refl, and_self, if_true, DS.wrC, Cells.size, Cells.fillFrom, Cells.set, Zj, z6, List.take_zero, List.take_succ_cons, List.drop_succ_cons, List.drop_zero, List.nil_append, List.cons_append, List.drop_nil, List.append_nil, DS.upd_get_self, DS.upd_get_ne, DS.upd_wr, Option.map_some, wrN, DS.read, Cells.take, zo, zz, zA, DS.upd_good, ZF, zX, ZW, Nat.add_assoc, Nat.reduceLT, Nat.lt_add_one, hG2, T1, wT, hlt]
 refine hQ _ ⟨⟨_, _, _, _, _, _, (s2.next, .cells (.list [.func (.func 92) #[] #[.pointer (some ⟨s.next + 2, 0, none⟩), .pointer (some ⟨s.next + 3, 0, none⟩)], .func (.func 94) #[] #[.pointer (some ⟨s.next + 2, 0, none⟩), .pointer (some ⟨s.next + 3, 0, none⟩)]]) false) :: (s.next, .cells (.list [.func (.func f1) a1 b1, .func (.func g1) p1 q1]) false) :: ([(s.next + 2, .cells (.list [.int .i64 ((2 : Nat) : Int)]) false), (s.next + 3, .cells (.list [.int .i64 4096]) false)] ++ D1), rfl, ?_, ?_, Cu ((FN hC (b1 := s.next + 2) (b2 := s.next + 3) (size := 2) (most := 4096) (by omega) (by omega)).mono hn) h4 oR hrow hsh (by have := hC.lf; omega) hcode1 hintr1⟩, ?_⟩
 · intro p hp
   rcases List.mem_cons.1 hp with rfl | hp
   · simp (maxSteps := 4000000) (maxDischargeDepth := 8) only [z0, DS.upd_get_self, DS.upd_get_ne, Option.map_some, zo, hG2, show ¬ s2.next = s.next + 1 by omega]
   · rcases List.mem_cons.1 hp with rfl | hp
     · simp (maxSteps := 4000000) (maxDischargeDepth := 8) only [z0, DS.upd_get_ne, zz, zX, Nat.lt_add_one, hG2, show ¬ s.next = s2.next by omega, show s.next < s2.next by omega, X2.keep S0 (by simp)]
     · rcases List.mem_append.1 hp with hp | hp
       · rcases List.mem_cons.1 hp with rfl | hp
         · simp (maxSteps := 4000000) (maxDischargeDepth := 8) only [z0, DS.upd_get_ne, zz, ZW, Nat.lt_add_one, hG2, show ¬ s.next + 2 = s2.next by omega, show s.next + 2 < s2.next by omega, n1]
           rfl
         · rcases List.mem_cons.1 hp with rfl | hp
           · simp (maxSteps := 4000000) (maxDischargeDepth := 8) only [z0, DS.upd_get_ne, zz, ZW, Nat.reduceLT, Nat.add_lt_add_iff_left, hG2, show ¬ s.next + 3 = s2.next by omega, show s.next + 3 < s2.next by omega, n2]
           · cases hp
       · have h5 := h3 p hp
         have h6 := X2.keep (XS.keep (h2 p hp) (by simp)) (by simp)
         simp (maxSteps := 4000000) (maxDischargeDepth := 8) only [z0, DS.upd_get_ne, zz, hG2, show ¬ p.1 = s2.next by omega, show ¬ p.1 = s.next + 1 by omega, show p.1 < s2.next by omega, h6]
 · intro p hp
   have hfin : m ≤ p.1 ∧ p.1 < s2.next + 1 := by
    rcases List.mem_cons.1 hp with rfl | hp
    · show m ≤ s2.next ∧ s2.next < s2.next + 1; omega
    · rcases List.mem_cons.1 hp with rfl | hp
      · show m ≤ s.next ∧ s.next < s2.next + 1; omega
      · rcases List.mem_append.1 hp with hp | hp
        · rcases List.mem_cons.1 hp with rfl | hp
          · show m ≤ s.next + 2 ∧ s.next + 2 < s2.next + 1; omega
          · rcases List.mem_cons.1 hp with rfl | hp
            · show m ≤ s.next + 3 ∧ s.next + 3 < s2.next + 1; omega
            · cases hp
        · have h5 := h3 p hp; omega
   simp (maxSteps := 4000000) (maxDischargeDepth := 8) only [DS.upd_next, zU]
   exact hfin
 · have X3 := XS.trans' X2
   have X4 : Ext [s2.next, s.next + 1] s2 (((s2.new (.cells (.list [.nilFunc, .nilFunc]) false)).upd s2.next (.cells (.list [.func (.func 92) #[] #[.pointer (some ⟨s.next + 2, 0, none⟩), .pointer (some ⟨s.next + 3, 0, none⟩)], .func (.func 94) #[] #[.pointer (some ⟨s.next + 2, 0, none⟩), .pointer (some ⟨s.next + 3, 0, none⟩)]]) false)).upd (s.next + 1) (.cells (.list [.func (.func 79) #[] #[.pointer (some ⟨s2.next, 0, none⟩), .pointer (some ⟨s.next, 0, none⟩)], .func (.func 80) #[] #[.pointer (some ⟨s2.next, 0, none⟩), .pointer (some ⟨s.next, 0, none⟩)]]) false)) := Ext.new.trans' ((Ext.upd (.inl (by simp))).trans' (Ext.upd (.inl (by simp))))
   exact X3.trans X4 (by simp; omega)
end
end Go.Dx.StA
namespace Go.Dx.StA
open Go Go.Dx Go.Dx.Search Go.Dx.St Go.Proofs.Ytnmajohhfcgddaa
structure Tx (E : Env) : Prop where
 f82 : E.fn 82 = some d82
 i82 : E.intr 82 = none
 f80 : E.fn 80 = some d80
 i80 : E.intr 80 = none
 f77 : E.fn 77 = some d77
 i77 : E.intr 77 = none
 f55 : E.fn 55 = some d55
 i55 : E.intr 55 = none
 f37 : E.fn 37 = some d37
 i37 : E.intr 37 = none
 f15 : E.fn 15 = some d15
 i15 : E.intr 15 = none
def JN (x : Ent) : List Value := [.int .i64 x.1, .int .i64 x.2]
theorem PW (o : Nat) (s : DS) (v : Value) (x : Ent) (h : DE Kz Kz o s v x) : v = .agg ⟨JN x⟩ := by
 obtain ⟨a, b, e, h1, h2⟩ := h
 have h1 : a = _ := h1
 have h2 : b = _ := h2
 subst h1 h2
 exact e
def Th : Nat → DS → Value → GF → Prop := DE Kz (PR 2 JN)
def Wz : RS → GF × RS := rdP (rdN 2 65535) (rdL (rdP (rdN 8 0) (rdN 8 0)))
theorem C0 : Vx Wz := Co (Qx _ _) (NI (Co (Qx _ _) (Qx _ _)))
section
variable {E : Env} (hC : Ch E) (hG' : R8 E) (hP : Fu E) (hU : Tx E) {s : DS} {d : Nat}
include hC hG' hP hU
theorem Ro (hG : s.Good) : W (dcall E (d + 3) (.func (.func 38) #[] #[]) [] s) fun r => YT E 6 s.next r.2 r.1 Th Wz ∧ Ext [] s r.2 := by
 refine Zw fun Q hQ => ?_
 rw [zT hP.i38 hP.f38 rfl]
 simp (maxSteps := 4000000) (maxDischargeDepth := 8) only [zr, zh, ze, zi, zm, zq, zg, Zi, zF, zB, zf, z5, pp, d38, hG]
 have h0 : ∀ o, (s.new o).get s.next = some o := fun o => DS.new_get_self hG
 have w0 : (s.new (.cells (.list [.nilFunc, .nilFunc]) false)).wr s.next = true := (hG _ (Nat.le_refl _)).2
 refine W.mono (FO hG' hC (m := s.next + 1) (DS.new_good hG) (Nat.le_refl _) hP.f57 hP.i57) ?_
 rintro ⟨v1, s1⟩ ⟨q1, X1⟩
 simp only at q1 X1
 have hG1 := X1.good (DS.new_good hG)
 simp (maxSteps := 4000000) only [zq, zg, zF, zB, zf, z5]
 refine W.mono (KB hG' hC (m := s.next + 1) hG1 X1.le hP.f60 hP.i60) ?_
 rintro ⟨v2, s2⟩ ⟨q2, X2⟩
 simp only at q2 X2
 have hG2 := X2.good hG1
 simp (maxSteps := 4000000) only [zq, zg, zF, zB, zf, z5]
 refine W.mono (KB hG' hC (m := s.next + 1) hG2 (Nat.le_trans X1.le X2.le) hP.f60 hP.i60) ?_
 rintro ⟨v3, s3⟩ ⟨q3, X3⟩
 simp only at q3 X3
 have hG3 := X3.good hG2
 simp (maxSteps := 4000000) only [zq, zg, zF, zl, zB, zf, zd, zc, Nat.reduceEqDiff, z0, z1, z4, z5]
 refine W.mono (GR hG' hC (Nat.le_trans X1.le (Nat.le_trans X2.le X3.le)) hG3 (q2.keep X3) q3 hP.f59 hP.i59 fun ha hb => CH ha hb V5 V5 (Qx 8 0) (fun _ _ _ x h => ⟨x, h⟩) (fun _ _ _ x h => ⟨x, h⟩) hU.f82 hU.i82) ?_
 rintro ⟨v4, s4⟩ ⟨q4, X4⟩
 simp only at q4 X4
 have hG4 := X4.good hG3
 simp (maxSteps := 4000000) only [zq, zg, zF, zl, zB, zf, zd, z1, z4, z5]
 refine W.mono (GP hG' hC (Nat.le_trans X1.le (Nat.le_trans X2.le (Nat.le_trans X3.le X4.le))) hG4 q4 (by omega) (row := JN) (Co (Qx 8 0) (Qx 8 0)) PW (fun x => ⟨_, _, rfl⟩) hP.f58 hP.i58 hU.f80 hU.i80) ?_
 rintro ⟨v5, s5⟩ ⟨q5, X5⟩
 simp only at q5 X5
 have hG5 := X5.good hG4
 simp (maxSteps := 4000000) only [zq, zg, zF, zl, zB, zf, zd, zc, Nat.reduceEqDiff, z0, z1, z4, z5]
 have X15 := X2.trans' (X3.trans' (X4.trans' X5))
 refine W.mono (GT hG' hC (Nat.le_trans X1.le X15.le) hG5 ((q1.keep X15).mono (show 3 ≤ 5 by omega)) q5 hP.f56 hP.i56 fun ha hb => CJ ha hb V5 PQ (Qx 2 65535) (fun _ _ _ x h => ⟨x, h⟩) (fun _ _ v _ h => by
  obtain ⟨a, c, e⟩ := h.1.shape
  exact ⟨_, _, _, e⟩) hU.f77 hU.i77) ?_
 rintro ⟨v6, s6⟩ ⟨q6, X6⟩
 simp only at q6 X6
 have X06 := X1.trans' (X15.trans' X6)
 have g6 := X06.keep (h0 _) (by simp)
 have w6 := X06.wrs w0
 obtain ⟨f, a, b, g, a', b', D, rfl, k2, k3, k4⟩ := q6
 simp (maxSteps := 4000000) (maxDischargeDepth := 8) only [zV, ze, zi, zm, zq, zg, zY, zk, Zz, Zo, zH, zl, zf, zy, zd, zc, z0, z1, zw, zG, Cells.get, getN, Nat.zero_add, Nat.reduceAdd, Zh, zO, List.length_cons, List.length_nil, allOne, zJ, Bool.and_self, Bool.and_true, Nat.beq_eq, Nat.ble_eq, Nat.le_refl, if_true, DS.wrC, Cells.size, Cells.fillFrom, Cells.set, Zj, DS.upd_get_self, Option.map_some, DS.read, Cells.take, zX, Nat.lt_add_one, Nat.succ_pos, g6, w6]
 have X7 : ∀ o, Ext [] s (s6.upd s.next o) := fun o => (Ext.new.trans' X06).trans (Ext.upd (F := [s.next]) (.inl (by simp))) (by simp)
 refine hQ _ ⟨⟨f, a, b, g, a', b', D, rfl, fun p hp => ?_, fun p hp => ?_, k4⟩, X7 _⟩
 · have := (k3 p hp).1
   simp only [DS.new_next] at this
   simp (maxSteps := 4000000) (maxDischargeDepth := 8) only [z0, DS.upd_get_ne, k2 p hp, show ¬ p.1 = s.next by omega]
 · have := k3 p hp
   simp only [DS.new_next] at this
   simp (maxSteps := 4000000) (maxDischargeDepth := 8) only [DS.upd_next]
   omega
end
section
variable {E : Env} (hU : Tx E) {s : DS} {d : Nat} {bv : Value} {bs : List Int}
include hU
def nRd (bs : List Int) : Int := (bs.length : Int) - ((Wz (bs, false)).2.1.length : Int)
theorem Pa {m : Nat} {fv : Value} (hf : YT E 6 m s fv Th Wz) (hv : SlR s bv bs) (hB : IsB bs) (hl : bs.length ≤ 1048576) (hG : s.Good) :
 W (dcall E (d + 7) (.func (.func 55) #[] #[]) [fv, bv] s) fun p => Ext [] s p.2 ∧ if (Wz (bs, false)).2.2 = true then p.1 = .tuple ⟨[.agg ⟨[.int .i64 0, .slice none 0 0]⟩, .int .i64 0, .int .i64 10]⟩
  else ∃ lv, p.1 = .tuple ⟨[.agg ⟨[.int .i64 (Wz (bs, false)).1.1, lv]⟩, .int .i64 (nRd bs), .int .i64 0]⟩ ∧ SlC p.2 2 lv ((Wz (bs, false)).1.2.map JN) ∧ ∀ k, k ∈ blk lv → s.next ≤ k := by
 obtain ⟨f, a, b, g, a', b', D, rfl, hD, hDb, hget⟩ := hf
 obtain ⟨ba, bc, hbv⟩ := hv.len
 have hvl := hv.lt
 refine Zw fun Q hQ => ?_
 rw [zT hU.i55 hU.f55 rfl]
 subst hbv
 simp (maxSteps := 4000000) (maxDischargeDepth := 8) only [zr, zh, zx, zM, ze, zi, zm, zq, zu, zg, zp, YA, ZD, zk, zI, Z5, Yf, zQ, Zl, Zi, Xe, zF, zt, Zv, zl, zj, zf, zd, zc, z0, zn, List.getElem?_cons_zero, List.getElem?_cons_succ, z1, z4, z5, zL, Cells.get, getN, Nat.zero_add, Nat.reduceAdd, Zy, zO, List.length_cons, List.length_nil, Bool.and_self, Bool.and_eq_true, Nat.beq_eq, Nat.ble_eq, Nat.reduceLeDiff, and_self, if_true, if_false, Bool.not_false, z3, z6, List.take_zero, List.drop_succ_cons, List.drop_zero, List.nil_append, List.cons_append, pp, pv, pw, pg, zU, zo, zz, zA, zX, Zu, Nat.add_assoc, Nat.reduceLT, Nat.lt_add_one, Nat.succ_pos, d55, hG]
 obtain ⟨S1, hS1⟩ : ∃ S1 : DS, S1 = ((((s.new (.cells (.list [.func (.func f) a b, .func (.func g) a' b']) false)).new (.cells (.list [.int .i64 0, .slice none 0 0]) false)).new (.cells (.list [.int .i64 0, .slice none 0 0]) false)).new (.cells (.list [.slice ba bs.length bc, .bool false]) false)) := ⟨_, rfl⟩
 rw [← hS1]
 have X1 : ∀ F, Ext F s S1 := fun F => by rw [hS1]; exact Ext.new.trans' (Ext.new.trans' (Ext.new.trans' Ext.new))
 have n1 : S1.next = s.next + 4 := by rw [hS1]; rfl
 have gB : S1.get (s.next + 1) = some (.cells (.list [.int .i64 0, .slice none 0 0]) false) := by rw [hS1]; simp (maxSteps := 4000000) (maxDischargeDepth := 8) only [Nat.reduceAdd, zU, zo, zz, zA, Nat.add_assoc, Nat.reduceLT, Nat.lt_add_one, Nat.add_lt_add_iff_left, hG]
 have gC : S1.get (s.next + 2) = some (.cells (.list [.int .i64 0, .slice none 0 0]) false) := by rw [hS1]; simp (maxSteps := 4000000) (maxDischargeDepth := 8) only [Nat.reduceAdd, zU, zo, zz, zA, Nat.add_assoc, Nat.lt_add_one, hG]
 have gI : S1.get (s.next + 3) = some (.cells (.list [.slice ba bs.length bc, .bool false]) false) := by rw [hS1]; simp (maxSteps := 4000000) (maxDischargeDepth := 8) only [Nat.reduceAdd, zU, zo, zA, Nat.add_assoc, hG]
 have G1 := (X1 []).good hG
 have w1 : ∀ k, S1.wr (s.next + k) = true := fun k => by rw [(X1 []).wr]; exact (hG _ (by omega)).2
 have I1 : Vz S1 (s.next + 3) (.slice ba bs.length bc) bs false := ⟨gI, w1 3, hv.keep (X1 []) (by simp), fun h => by have := hvl _ h; omega⟩
 refine W.mono (hget d S1 (s.next + 3) _ bs false (hD.keep (X1 []) (by simp)) (fun p hp => by have := hDb p hp; omega) I1 hB hl G1) ?_
 rintro ⟨v2, s2⟩ ⟨bv2, R2, I2, X2, b2⟩
 simp only at R2 I2 X2 b2
 obtain ⟨v1, lv, rfl, hv1, hlv, hbl⟩ := R2
 have hv1 : v1 = _ := hv1
 subst hv1
 have G2 := X2.good G1
 have le2 := X2.le
 have hB2 := X2.keep gB (by simp)
 have hC2 := X2.keep gC (by simp)
 have w2 : ∀ k, s2.wr (s.next + k) = true := fun k => X2.wrs (w1 k)
 have gr2 := I2.gr
 obtain ⟨a2, c2, hb2⟩ := I2.sl.len
 rw [hb2] at gr2
 obtain ⟨al, cl, hlvs⟩ := hlv.shape
 obtain ⟨k, hk⟩ := C0.suf (bs, false)
 have hrl : (Wz (bs, false)).2.1.length ≤ bs.length := by rw [hk]; simp
 have hn : zE .i64 ((bs.length : Int) - ((Wz (bs, false)).2.1.length : Int)) = nRd bs := zR (by omega) (by omega)
 have hn2 : ¬ (1048576 : Int) < nRd bs := by unfold nRd; omega
 have l1 : s.next + 1 < s2.next := by omega
 have l2 : s.next + 2 < s2.next := by omega
 have l3 : s.next + 3 < s2.next := by omega
 have U : ∀ o1 o2 o3 (F : List Nat), Ext ((s.next + 1) :: F) s2 (((s2.new o1).upd s2.next o2).upd (s.next + 1) o3) := fun o1 o2 o3 F => by
  have u1 : Ext ((s.next + 1) :: F) s2 (s2.new o1) := Ext.new
  have u2 : Ext [s2.next] (s2.new o1) ((s2.new o1).upd s2.next o2) := Ext.upd (.inl (by simp))
  have u3 : Ext ((s.next + 1) :: F) s2 ((s2.new o1).upd s2.next o2) := u1.trans u2 (by simp)
  have u4 : Ext ((s.next + 1) :: F) ((s2.new o1).upd s2.next o2) (((s2.new o1).upd s2.next o2).upd (s.next + 1) o3) := Ext.upd (.inl (List.mem_cons_self ..))
  exact u3.trans' u4
 have V : ∀ o1 o2 o3, Ext [] s (((s2.new o1).upd s2.next o2).upd (s.next + 1) o3) := fun o1 o2 o3 => ((X1 []).trans X2 (by simp)).trans (U o1 o2 o3 []) (by simp)
 simp (maxSteps := 4000000) only [zq, zg, Zz, Zi, zl, zf, zd, zc, Nat.reduceEqDiff, z0, z1, Nat.zero_add, Zh, zZ, zO, List.length_cons, allOne, zJ, Bool.true_and, Bool.and_eq_true, Nat.beq_eq, Nat.ble_eq, DS.wrC, Cells.size, Cells.fillFrom, Cells.set, List.nil_append, List.cons_append, wrN]
 subst hlvs
 have hne : ¬ s2.next = s.next + 1 := by omega
 cases hbad : (Wz (bs, false)).2.2 with
 | true =>
  simp only [hbad, if_true] at hQ
  rw [hbad] at gr2
  simp (maxSteps := 4000000) (maxDischargeDepth := 8) only [zr, zh, zx, zV, ze, Zx, zi, zm, zq, ZH, XL, zC, zg, zp, zY, zk, zI, Zd, zP, zS, zQ, Zk, Zl, Zz, zt, z7, Zb, Zo, zH, zl, zj, zf, zy, zd, zc, z0, zn, List.getElem?_cons_zero, List.getElem?_cons_succ, z1, zw, zG, zL, Cells.get, getN, Nat.zero_add, Nat.reduceAdd, Zh, Zy, zO, List.length_cons, List.length_nil, allOne, zJ, Bool.and_self, Bool.and_true, Nat.beq_eq, Nat.ble_eq, Nat.le_refl, and_self, if_true, if_false, z3, DS.wrC, Cells.size, Cells.fillFrom, Cells.set, Zj, List.nil_append, DS.upd_get_self, DS.upd_get_ne, DS.upd_next, DS.upd_wr, Option.map_some, zU, wrN, YF, ldA, Nat.add_zero, DS.read, Cells.take, zo, zz, zA, DS.upd_good, ZF, zX, Nat.reduceLT, Nat.lt_add_one, hB2, hC2, w2, gr2, hn, G2, l1, l2, l3]
  exact hQ _ ⟨V _ _ _, rfl⟩
 | false =>
  simp only [hbad, z3, if_false] at hQ
  rw [hbad] at gr2
  simp (maxSteps := 4000000) (maxDischargeDepth := 8) only [zr, zh, zx, zM, zV, ze, zi, zm, zq, ZH, Zm, zu, zg, zp, zY, zk, zI, Zd, zP, zS, zQ, Zk, Zl, Zz, zt, z7, Zb, Zo, zH, zl, zj, zf, zy, zd, zc, z0, zn, List.getElem?_cons_zero, List.getElem?_cons_succ, z1, zw, zG, zL, Cells.get, getN, Nat.zero_add, Nat.reduceAdd, Zh, Zy, zO, List.length_cons, List.length_nil, allOne, zJ, Bool.and_self, Bool.and_true, Nat.beq_eq, Nat.ble_eq, Nat.le_refl, and_self, if_true, if_false, z3, DS.wrC, Cells.size, Cells.fillFrom, Cells.set, Zj, DS.upd_get_self, DS.upd_get_ne, DS.upd_wr, Option.map_some, wrN, YF, ldA, Nat.add_zero, decide_false, DS.read, Cells.take, zo, zz, zA, DS.upd_good, ZF, zX, Nat.reduceLT, Nat.lt_add_one, hB2, hC2, w2, gr2, hn, hn2, G2, l1, l2, l3]
  refine hQ _ ⟨V _ _ _, _, rfl, hlv.keep (U _ _ _ []) fun k hk => by have := hbl k hk; simp; omega, fun k hk => by have := hbl k hk; omega⟩
def Cf (bs : List Int) : Prop := (Wz (bs, false)).2.2 = false ∧ (Wz (bs, false)).2.1 = []
theorem Sk {m : Nat} {fv : Value} (hf : YT E 6 m s fv Th Wz) (hv : SlR s bv bs) (hB : IsB bs) (hl : bs.length ≤ 1048576) (hG : s.Good) :
 W (dcall E (d + 8) (.func (.func 37) #[] #[]) [fv, bv] s) fun p => Ext [] s p.2 ∧ ((¬ Cf bs ∧ p.1 = .tuple ⟨[.agg ⟨[.int .i64 0, .slice none 0 0]⟩, .int .i64 10]⟩) ∨
  (Cf bs ∧ ∃ lv, p.1 = .tuple ⟨[.agg ⟨[.int .i64 (Wz (bs, false)).1.1, lv]⟩, .int .i64 0]⟩ ∧ SlC p.2 2 lv ((Wz (bs, false)).1.2.map JN) ∧ ∀ k, k ∈ blk lv → s.next ≤ k)) := by
 obtain ⟨f, a, b, g, a', b', D, rfl, hD, hDb, hget⟩ := hf
 obtain ⟨ba, bc, hbv⟩ := hv.len
 have hvl := hv.lt
 refine Zw fun Q hQ => ?_
 rw [zT hU.i37 hU.f37 rfl]
 subst hbv
 simp (maxSteps := 4000000) (maxDischargeDepth := 8) only [zr, zh, ze, zi, zm, zq, zg, zp, zk, zI, Zi, Xe, zF, zl, zj, zB, zf, zd, zc, z0, zn, List.getElem?_cons_zero, List.getElem?_cons_succ, z1, z4, z5, Cells.get, getN, Nat.reduceAdd, zO, pp, pv, zU, YF, ldA, DS.read, Cells.take, zo, zz, zA, zX, Zu, Nat.add_assoc, Nat.reduceLT, Nat.lt_add_one, Nat.succ_pos, d37, hG]
 obtain ⟨S1, hS1⟩ : ∃ S1 : DS, S1 = (((s.new (.cells (.list [.func (.func f) a b, .func (.func g) a' b']) false)).new (.cells (.list [.int .i64 0, .slice none 0 0]) false)).new (.cells (.list [.int .i64 0, .slice none 0 0]) false)) := ⟨_, rfl⟩
 rw [← hS1]
 have X1 : ∀ F, Ext F s S1 := fun F => by rw [hS1]; exact Ext.new.trans' (Ext.new.trans' Ext.new)
 have n1 : S1.next = s.next + 3 := by rw [hS1]; rfl
 have gB : S1.get (s.next + 1) = some (.cells (.list [.int .i64 0, .slice none 0 0]) false) := by rw [hS1]; simp (maxSteps := 4000000) (maxDischargeDepth := 8) only [Nat.reduceAdd, zU, zo, zz, zA, Nat.add_assoc, Nat.lt_add_one, hG]
 have gC : S1.get (s.next + 2) = some (.cells (.list [.int .i64 0, .slice none 0 0]) false) := by rw [hS1]; simp (maxSteps := 4000000) (maxDischargeDepth := 8) only [Nat.reduceAdd, zU, zo, zA, Nat.add_assoc, hG]
 have G1 := (X1 []).good hG
 have w1 : ∀ k, S1.wr (s.next + k) = true := fun k => by rw [(X1 []).wr]; exact (hG _ (by omega)).2
 have hf1 : YT E 6 m S1 (.agg ⟨[.func (.func f) a b, .func (.func g) a' b']⟩) Th Wz := YT.keep ⟨f, a, b, g, a', b', D, rfl, hD, hDb, hget⟩ (X1 [])
 refine W.mono (Pa hU (d := d) hf1 (hv.keep (X1 []) (by simp)) hB hl G1) ?_
 rintro ⟨v2, s2⟩ ⟨X2, hv2⟩
 simp only at X2 hv2
 have G2 := X2.good G1
 have le2 := X2.le
 have hB2 := X2.keep gB (by simp)
 have hC2 := X2.keep gC (by simp)
 have w2 : ∀ k, s2.wr (s.next + k) = true := fun k => X2.wrs (w1 k)
 obtain ⟨k, hk⟩ := C0.suf (bs, false)
 have hrl : (Wz (bs, false)).2.1.length ≤ bs.length := by rw [hk]; simp
 have l1 : s.next + 1 < s2.next := by omega
 have l2 : s.next + 2 < s2.next := by omega
 have U : ∀ o1 o2 o3 (F : List Nat), Ext ((s.next + 1) :: F) s2 (((s2.new o1).upd s2.next o2).upd (s.next + 1) o3) := fun o1 o2 o3 F => by
  have u1 : Ext ((s.next + 1) :: F) s2 (s2.new o1) := Ext.new
  have u2 : Ext [s2.next] (s2.new o1) ((s2.new o1).upd s2.next o2) := Ext.upd (.inl (by simp))
  have u3 : Ext ((s.next + 1) :: F) s2 ((s2.new o1).upd s2.next o2) := u1.trans u2 (by simp)
  have u4 : Ext ((s.next + 1) :: F) ((s2.new o1).upd s2.next o2) (((s2.new o1).upd s2.next o2).upd (s.next + 1) o3) := Ext.upd (.inl (List.mem_cons_self ..))
  exact u3.trans' u4
 have V : ∀ o1 o2 o3, Ext [] s (((s2.new o1).upd s2.next o2).upd (s.next + 1) o3) := fun o1 o2 o3 => ((X1 []).trans' X2).trans (U o1 o2 o3 []) (by simp)
 have hne : ¬ s2.next = s.next + 1 := by omega
 cases hbad : (Wz (bs, false)).2.2 with
 | true =>
  simp only [hbad, if_true] at hv2
  subst hv2
  simp (maxSteps := 4000000) (maxDischargeDepth := 8) only [zr, zh, zx, zN, zV, ze, Zx, YI, zi, zm, zq, zC, zg, zp, zY, zk, zI, zP, Yg, Zz, Zi, zt, z7, Zb, Zo, zH, zl, zj, zf, zy, zd, zc, z0, z1, zw, zG, Cells.get, getN, Nat.zero_add, Nat.reduceAdd, Zh, zO, List.length_cons, List.length_nil, allOne, zJ, Bool.and_self, Bool.and_true, Nat.beq_eq, Nat.ble_eq, Nat.le_refl, if_true, Bool.not_false, DS.wrC, Cells.size, Cells.fillFrom, Cells.set, Zj, DS.upd_get_self, DS.upd_get_ne, DS.upd_wr, Option.map_some, wrN, YF, ldA, decide_false, Int.reduceEq, DS.read, Cells.take, zo, zz, zA, DS.upd_good, ZF, zX, ZW, Nat.reduceLT, Nat.lt_add_one, hB2, hC2, w2, G2, l1, l2]
  have hng : ¬ Cf bs := fun h => by rw [h.1] at hbad; cases hbad
  exact hQ _ ⟨V _ _ _, .inl ⟨hng, rfl⟩⟩
 | false =>
  simp only [hbad, z3, if_false] at hv2
  obtain ⟨lv, hv2, hlv, hbl⟩ := hv2
  subst hv2
  obtain ⟨al, cl, hlvs⟩ := hlv.shape
  subst hlvs
  by_cases hr : (Wz (bs, false)).2.1 = []
  · have e1 : ¬ nRd bs < (bs.length : Int) := by unfold nRd; rw [hr]; simp
    simp (maxSteps := 4000000) (maxDischargeDepth := 8) only [zr, zh, zx, zN, zM, zV, ze, zK, zi, zm, zq, zu, zg, zp, zY, zk, zI, zP, Yg, Zk, Zz, Zi, zt, z7, Zb, Zo, zH, zl, zj, zf, zy, zd, zc, z0, zn, List.getElem?_cons_zero, List.getElem?_cons_succ, z1, zw, zG, Cells.get, getN, Nat.zero_add, Nat.reduceAdd, Zh, zO, List.length_cons, List.length_nil, allOne, zJ, Bool.and_self, Bool.and_true, Nat.beq_eq, Nat.ble_eq, Nat.le_refl, if_true, Bool.not_true, DS.wrC, Cells.size, Cells.fillFrom, Cells.set, Zj, DS.upd_get_self, DS.upd_get_ne, DS.upd_wr, Option.map_some, wrN, YF, ldA, decide_true, decide_false, DS.read, Cells.take, zo, zz, zA, DS.upd_good, ZF, zX, ZW, Nat.reduceLT, Nat.lt_add_one, hB2, hC2, w2, G2, l1, l2, e1]
    exact hQ _ ⟨V _ _ _, .inr ⟨⟨hbad, hr⟩, _, rfl, hlv.keep (U _ _ _ []) fun k hk => by have := hbl k hk; simp; omega, fun k hk => by have := hbl k hk; omega⟩⟩
  · have e1 : nRd bs < (bs.length : Int) := by
     have : 0 < (Wz (bs, false)).2.1.length := List.length_pos_iff.2 hr
     unfold nRd
     omega
    simp (maxSteps := 4000000) (maxDischargeDepth := 8) only [zr, zh, zx, zN, zV, ze, Zx, YI, zi, zm, zq, zC, zu, zg, zp, zY, zk, zI, zP, Yg, Zk, Zz, Zi, zt, z7, Zb, Zo, zH, zl, zj, zf, zy, zd, zc, z0, zn, List.getElem?_cons_zero, List.getElem?_cons_succ, z1, zw, zG, Cells.get, getN, Nat.zero_add, Nat.reduceAdd, Zh, zO, List.length_cons, List.length_nil, allOne, zJ, Bool.and_self, Bool.and_true, Nat.beq_eq, Nat.ble_eq, Nat.le_refl, if_true, Bool.not_true, DS.wrC, Cells.size, Cells.fillFrom, Cells.set, Zj, DS.upd_get_self, DS.upd_get_ne, DS.upd_wr, Option.map_some, wrN, YF, ldA, decide_true, DS.read, Cells.take, zo, zz, zA, DS.upd_good, ZF, zX, ZW, Nat.reduceLT, Nat.lt_add_one, hB2, hC2, w2, G2, l1, l2, e1]
    exact hQ _ ⟨V _ _ _, .inl ⟨fun h => hr h.2, rfl⟩⟩
end
def GoodS (bs : List Int) : Prop := Cf bs ∧ (Wz (bs, false)).1.1 ≤ 4096 ∧ ((Wz (bs, false)).1.2.length : Int) ≤ (Wz (bs, false)).1.1 ∧ XZ (Wz (bs, false)).1.2
theorem TH {L : List Ent} {x : Ent} (h : XZ L) (hx : ∀ y, y ∈ L → y.1 < x.1) : XZ (L ++ [x]) := by
 unfold XZ at *
 rw [List.pairwise_append]
 exact ⟨h, List.pairwise_singleton .., fun a ha b hb => by rw [List.mem_singleton.1 hb]; exact hx a ha⟩
theorem TI {L : List Ent} {i : Nat} {x y : Ent} (h : XZ (L.take (i + 1))) (hy : L[i]? = some y) (hxy : y.1 < x.1) : ∀ z, z ∈ L.take (i + 1) → z.1 < x.1 := by
 intro z hz
 rw [List.take_add_one, hy] at hz h
 rcases List.mem_append.1 hz with hz | hz
 · have := (List.pairwise_append.1 h).2.2 z hz y (by simp)
   omega
 · simp at hz
   subst hz
   exact hxy
structure UpI (s0 : DS) (p x : Nat) (room : Int) (L : List Ent) (lv : Value) (n : Nat) (y : St) : Prop where
 ex : ∃ (i : Nat) (kv vv : Value), n = L.length - i ∧ i ≤ L.length ∧ y.defers = [] ∧
  (y.t.get 4 = some (.pointer (some ⟨x, 0, none⟩)) ∧ y.t.get 6 = some (.pointer (some ⟨p, 0, none⟩)) ∧ y.t.get 35 = some lv ∧ y.t.get 36 = some (.int .i64 (L.length : Int)) ∧ y.t.get 37 = some (.int .i64 (i : Int))) ∧
  Xg y.s p kv vv (L.take i) room ∧ (∀ k, k ∈ blk kv ∨ k ∈ blk vv → s0.next ≤ k) ∧ Ext [p] s0 y.s ∧ y.s.Good
section
variable {E : Env} (hC : Ch E) (hG' : R8 E) (hP : Fu E) (hU : Tx E) {s : DS} {d : Nat} {bv : Value} {bs : List Int}
include hC hG' hP hU
theorem Fr (hv : SlR s bv bs) (hB : IsB bs) (hl : bs.length ≤ 1048576) (hG : s.Good) :
 W (dcall E (d + 9) (.func (.func 15) #[] #[]) [bv] s) fun r => Ext [] s r.2 ∧ ((¬ GoodS bs ∧ r.1 = .tuple #[.pointer none, .int .i64 10]) ∨
  (GoodS bs ∧ ∃ p kv vv, r.1 = .tuple #[.pointer (some ⟨p, 0, none⟩), .int .i64 0] ∧ Xg r.2 p kv vv (Wz (bs, false)).1.2 (Wz (bs, false)).1.1 ∧ ∀ k, k ∈ own p kv vv → s.next ≤ k)) := by
 have hlf := hC.lf
 refine Zw fun Q hQ => ?_
 rw [zT hU.i15 hU.f15 rfl]
 simp (maxSteps := 4000000) only [zr, zh, ze, zi, zm, zq, zg, zI, zF, zj, zB, zf, z5, pp, pv, pw, pg, d15]
 refine W.mono (Ro hC hG' hP hU (d := d + 5) hG) ?_
 rintro ⟨fv, s1⟩ ⟨q1, X1⟩
 simp only at q1 X1
 have G1 := X1.good hG
 simp (maxSteps := 4000000) only [zq, zg, zI, zF, zl, zB, zf, zd, zc, Nat.reduceEqDiff, z0, zn, List.getElem?_cons_zero, z1, z4, z5, reduceCtorEq]
 refine W.mono (Sk hU (d := d) q1 (hv.keep X1 (by simp)) hB hl G1) ?_
 rintro ⟨v2, s2⟩ ⟨X2, h2⟩
 simp only at X2 h2
 have G2 := X2.good G1
 have le1 := X1.le
 have le2 := X2.le
 obtain ⟨L, hL⟩ : ∃ L, L = (Wz (bs, false)).1.2 := ⟨_, rfl⟩
 obtain ⟨room, hroom⟩ : ∃ room, room = (Wz (bs, false)).1.1 := ⟨_, rfl⟩
 have hGS : GoodS bs ↔ Cf bs ∧ room ≤ 4096 ∧ (L.length : Int) ≤ room ∧ XZ L := by unfold GoodS; rw [hL, hroom]
 rw [← hL, ← hroom] at h2 hQ
 have U : ∀ o1 o2, Ext [] s ((s2.new o1).upd s2.next o2) := fun o1 o2 => by
  have u1 : Ext [] s2 (s2.new o1) := Ext.new
  have u2 : Ext [s2.next] (s2.new o1) ((s2.new o1).upd s2.next o2) := Ext.upd (.inl (by simp))
  exact (X1.trans' X2).trans' (u1.trans u2 (by simp))
 rcases h2 with ⟨hn, rfl⟩ | ⟨hg, lv, rfl, hlv, hbl⟩
 · simp (maxSteps := 4000000) (maxDischargeDepth := 8) only [zr, zh, zx, zV, ze, Zx, zi, zm, zq, ZH, XL, zC, zg, zp, zY, zk, zI, Zd, zP, Yg, Zz, Zi, zt, z7, Zb, zH, zl, zj, zf, zy, zd, zc, z0, z1, zw, zG, getN, Nat.zero_add, Nat.reduceAdd, Zh, zO, List.length_cons, List.length_nil, allOne, zJ, Bool.and_self, Bool.and_true, Nat.beq_eq, Nat.ble_eq, Nat.le_refl, if_true, if_false, Bool.not_false, z3, DS.wrC, Cells.size, Cells.fillFrom, Cells.set, Zj, List.nil_append, DS.upd_next, zU, wrN, decide_false, Int.reduceEq, zo, zA, ZF, zX, ZW, Nat.reduceLT, Nat.lt_add_one, G2]
   exact hQ _ ⟨U _ _, .inl ⟨fun h => hn h.1, rfl⟩⟩
 obtain ⟨al, cl, hlvs⟩ := hlv.shape
 rw [List.length_map] at hlvs
 by_cases c1 : room ≤ 4096
 case neg =>
  have e1 : (4096 : Int) < room := by omega
  subst hlvs
  simp (maxSteps := 4000000) (maxDischargeDepth := 8) only [zr, zh, zx, zV, ze, Zx, zi, zm, zq, ZH, XL, Zm, zC, zg, zp, zY, zk, zI, Zd, zP, zQ, Yg, Zl, Zz, Zi, zt, z7, Zb, zH, zl, zj, zf, zy, zd, zc, z0, z1, zw, zG, zL, Cells.get, getN, Nat.zero_add, Nat.reduceAdd, Zh, zO, List.length_cons, List.length_nil, allOne, zJ, Bool.and_self, Bool.and_true, Nat.beq_eq, Nat.ble_eq, Nat.le_refl, if_true, if_false, Bool.not_true, z3, DS.wrC, Cells.size, Cells.fillFrom, Cells.set, Zj, List.nil_append, DS.upd_get_self, DS.upd_next, Option.map_some, zU, wrN, Nat.add_zero, decide_true, zo, zA, ZF, zX, ZW, Nat.reduceLT, Nat.lt_add_one, G2, e1]
  exact hQ _ ⟨U _ _, .inl ⟨fun h => c1 (hGS.1 h).2.1, rfl⟩⟩
 have e1 : ¬ (4096 : Int) < room := by omega
 by_cases c2 : (L.length : Int) ≤ room
 case neg =>
  have e2 : room < (L.length : Int) := by omega
  subst hlvs
  simp (maxSteps := 4000000) (maxDischargeDepth := 8) only [zr, zh, zx, zV, ze, Zx, zi, zm, zq, ZH, Zm, zC, zg, zp, zY, zk, zI, Zd, zP, zQ, Yg, Zk, Zl, Zz, Zi, zt, z7, Zb, zH, zl, zj, zf, zy, zd, zc, z0, z1, zw, zG, zL, Cells.get, getN, Nat.zero_add, Nat.reduceAdd, Zh, zO, List.length_cons, List.length_nil, allOne, zJ, Bool.and_self, Bool.and_true, Nat.beq_eq, Nat.ble_eq, Nat.le_refl, if_true, if_false, Bool.not_true, z3, DS.wrC, Cells.size, Cells.fillFrom, Cells.set, Zj, DS.upd_get_self, Option.map_some, wrN, Nat.add_zero, decide_true, decide_false, zo, zA, ZF, zX, ZW, Nat.reduceLT, Nat.lt_add_one, G2, e1, e2]
  exact hQ _ ⟨U _ _, .inl ⟨fun h => c2 (hGS.1 h).2.2.1, rfl⟩⟩
 have e2 : ¬ room < (L.length : Int) := by omega
 have hgr : ZI 2 (L.map JN) := ⟨fun y hy => by obtain ⟨z, _, rfl⟩ := List.mem_map.1 hy; rfl, fun y hy => by obtain ⟨z, _, rfl⟩ := List.mem_map.1 hy; rfl⟩
 subst hlvs
 simp (maxSteps := 4000000) (maxDischargeDepth := 8) only [zr, zh, zx, zN, zM, ze, zi, zm, zq, ZH, Zm, zu, zg, zp, zY, YA, zk, zI, Zd, zP, Yf, zQ, Yg, Zk, Zl, Zz, Zi, Xe, zt, z7, Zb, zl, zj, zf, zy, zd, zc, z0, z1, zL, Cells.get, getN, Nat.zero_add, Nat.reduceAdd, Zh, zZ, zO, List.length_cons, List.length_nil, allOne, zJ, Bool.and_self, Bool.and_true, Bool.and_eq_true, Nat.beq_eq, Nat.ble_eq, Nat.le_refl, and_self, if_true, if_false, Bool.not_true, z3, DS.wrC, Cells.size, Cells.fillFrom, Cells.set, Zj, z6, List.take_zero, List.take_succ_cons, List.drop_succ_cons, List.nil_append, List.cons_append, List.drop_nil, List.append_nil, DS.upd_get_self, DS.upd_next, Option.map_some, zU, wrN, Nat.add_zero, decide_true, decide_false, zo, zz, zA, DS.upd_good, ZF, zX, ZW, Nat.reduceLT, Nat.lt_add_one, G2, e1, e2]
 obtain ⟨S3, hS3⟩ : ∃ S3 : DS, S3 = ((s2.new (.cells (.list [.int .i64 0, .slice none 0 0]) false)).upd s2.next (.cells (.list [.int .i64 room, .slice al L.length cl]) false)).new (.cells (.list [.slice none 0 0, .slice none 0 0, .int .i64 room]) false) := ⟨_, rfl⟩
 rw [← hS3]
 have X3 : ∀ F, Ext F s2 S3 := fun F => by
  rw [hS3]
  have u1 : Ext F s2 (s2.new (.cells (.list [.int .i64 0, .slice none 0 0]) false)) := Ext.new
  have u2 : Ext [s2.next] (s2.new (.cells (.list [.int .i64 0, .slice none 0 0]) false)) ((s2.new (.cells (.list [.int .i64 0, .slice none 0 0]) false)).upd s2.next (.cells (.list [.int .i64 room, .slice al L.length cl]) false)) := Ext.upd (.inl (by simp))
  exact (u1.trans u2 (by simp)).trans' Ext.new
 have n3 : S3.next = s2.next + 2 := by rw [hS3]; simp (maxSteps := 4000000) (maxDischargeDepth := 8) only [Nat.reduceAdd, DS.upd_next, zU, Nat.add_assoc]
 have gx : S3.get s2.next = some (.cells (.list [.int .i64 room, .slice al L.length cl]) false) := by rw [hS3]; simp (maxSteps := 4000000) (maxDischargeDepth := 8) only [DS.upd_get_self, DS.upd_next, Option.map_some, zU, zo, zz, zA, DS.upd_good, Nat.lt_add_one, G2]
 have gp : S3.get (s2.next + 1) = some (.cells (.list [.slice none 0 0, .slice none 0 0, .int .i64 room]) false) := by rw [hS3]; simp (maxSteps := 4000000) (maxDischargeDepth := 8) only [DS.upd_next, zU, zo, zA, DS.upd_good, G2]
 have G3 := (X3 []).good G2
 have w3 : S3.wr (s2.next + 1) = true := by rw [(X3 []).wr]; exact (G2 _ (by omega)).2
 have hlv3 := hlv.keep (X3 []) (by simp)
 refine ZP (UpI S3 (s2.next + 1) s2.next room L (.slice al L.length cl)) L.length (by omega) ⟨0, .slice none 0 0, .slice none 0 0, rfl, Nat.zero_le _, rfl, ?_, ⟨gp, w3, SlC.nil, SlC.nil, by simp [blk], by simp [blk], by simp [blk], List.Pairwise.nil, by simp⟩, by simp [blk], .refl, G3⟩ ?_
 · simp (maxSteps := 4000000) (maxDischargeDepth := 8) only [zd, zc, z0, Bool.true_and, true_and, zX, Nat.reduceLT, Nat.lt_add_one]
   rfl
 rintro n ⟨t, S, ds⟩ hn ⟨i, kv, vv, rfl, hi, hds, ⟨t4, t6, t35, t36, t37⟩, c, hfr, X, GS⟩
 simp only at hds t4 t6 t35 t36 t37 c X GS
 subst hds
 have gxS := X.keep gx (by simp)
 have hlvS := hlv3.keep X fun k hk => by have := hlv.lt k hk; simp; omega
 have leS := X.le
 by_cases c3 : i < L.length
 case neg =>
  obtain rfl : i = L.length := by omega
  have e3 : ¬ ((L.length : Nat) : Int) < (L.length : Int) := by omega
  rw [List.take_length] at c
  simp (maxSteps := 4000000) only [zr, zh, zx, zV, ZA, ze, Ze, Zg, zi, Zf, zm, zq, zu, zg, zp, zk, zI, zP, z7, Zb, zH, zl, zj, zf, zd, zc, Nat.reduceEqDiff, z0, z1, zw, zG, if_true, decide_false, t4, t6, t35, t36, t37, e3]
  refine hQ _ ⟨((X1.trans' X2).trans' (X3 [])).trans X (by simp; omega), .inr ⟨hGS.2 ⟨hg, c1, c2, c.so⟩, _, kv, vv, rfl, c, fun k hk => ?_⟩⟩
  simp only [own, List.mem_cons, List.mem_append] at hk
  rcases hk with rfl | hk
  · omega
  · have := hfr k hk
    omega
 have e3 : (i : Int) < (L.length : Int) := by omega
 have hx : L[i]? = some L[i] := List.getElem?_eq_getElem c3
 generalize L[i] = x at hx
 have hmx : (L.map JN)[i]? = some (JN x) := by rw [List.getElem?_map, hx]; rfl
 have hm2 : ∀ y, y ∈ L.map JN → y.length = 2 := fun y hy => by obtain ⟨z, _, rfl⟩ := List.mem_map.1 hy; rfl
 have hfl : ∀ (j : Nat) (z : Ent), L[j]? = some z → getN (L.map JN).flatten (j * 2) = some (.int .i64 z.1) ∧ getN (L.map JN).flatten (j * 2 + 1) = some (.int .i64 z.2) := fun j z hz => by
  have hmz : (L.map JN)[j]? = some (JN z) := by rw [List.getElem?_map, hz]; rfl
  have h0 := XO (j := 0) hm2 hmz rfl
  have h1 := XO (j := 1) hm2 hmz rfl
  exact ⟨by rwa [Nat.add_zero] at h0, h1⟩
 rcases hlvS with ⟨_, h0⟩ | ⟨b, sp, c', ext, heq, hroom⟩
 · rw [h0] at hmx; simp at hmx
 have hgb := hroom.get
 have hfl' : ∀ (j : Nat) (z : Ent), L[j]? = some z → getN ((L.map JN).flatten ++ ext) (j * 2) = some (.int .i64 z.1) ∧ getN ((L.map JN).flatten ++ ext) (j * 2 + 1) = some (.int .i64 z.2) := fun j z hz => by
  obtain ⟨h0, h1⟩ := hfl j z hz
  have l0 : j * 2 < (L.map JN).flatten.length := by rw [Zs] at h0; exact (List.getElem?_eq_some_iff.1 h0).1
  have l1 : j * 2 + 1 < (L.map JN).flatten.length := by rw [Zs] at h1; exact (List.getElem?_eq_some_iff.1 h1).1
  exact ⟨by rw [Xn l0]; exact h0, by rw [Xn l1]; exact h1⟩
 obtain ⟨hx0, hx1⟩ := hfl' i x hx
 injection heq with hq1 hq2 hq3
 subst hq1 hq3
 have w1 : zE .i64 ((i : Int) + 1) = ((i + 1 : Nat) : Int) := by rw [zR (by omega) (by omega)]; omega
 have gpS := c.gp
 have wpS := c.wp
 have hpn : s2.next + 1 < S.next := by omega
 have hxn : s2.next < S.next := by omega
 have hbn : b < S.next := DS.get_lt' hgb
 cases i with
 | zero =>
  have e0 : ¬ (0 : Int) < ((0 : Nat) : Int) := by omega
  simp (maxSteps := 4000000) (maxDischargeDepth := 8) only [zr, zh, zx, zN, zM, ze, zi, zm, zq, ZH, XM, zC, zu, zg, zp, zY, ZR, zk, zI, Zd, zP, zS, zQ, Yy, Zl, Zz, Zi, zt, z7, Zb, zl, zj, zf, zy, zd, zc, z0, z1, zL, Cells.get, getN, Nat.zero_add, Nat.reduceAdd, Zh, zZ, zO, List.length_cons, List.length_nil, allOne, zJ, Bool.and_self, Bool.and_true, Bool.and_eq_true, Nat.beq_eq, Nat.ble_eq, Nat.blt_eq, Nat.reduceLeDiff, Nat.le_refl, and_self, if_true, if_false, z3, DS.wrC, Cells.size, Cells.fillFrom, Cells.set, Zj, z6, List.take_zero, List.drop_succ_cons, List.nil_append, List.drop_nil, List.append_nil, DS.upd_get_self, DS.upd_get_ne, DS.upd_next, Option.map_some, zU, wrN, Wl, Yk, repeatZ, ZR, YF, ldA, Nat.add_zero, zD, Nat.mul_one, Nat.zero_mul, decide_true, decide_false, DS.read, Cells.take, zo, zz, zA, ZF, zX, ZW, Nat.reduceLT, Nat.lt_add_one, t4, t6, t35, t36, t37, e3, hgb, hx0, hx1, c3, GS, e0, gpS, wpS, hpn, hxn]
  have hso : XZ (L.take (0 + 1)) := by rw [List.take_add_one, hx]; exact List.pairwise_singleton ..
  have hpS : ∀ k, k ∈ own (s2.next + 1) kv vv → k < S.next := c.lt
  have hkS : ∀ k, k ∈ blk kv → k < S.next := fun k hk => c.lt k (by simp [own, hk])
  have hvS : ∀ k, k ∈ blk vv → k < S.next := fun k hk => c.lt k (by simp [own, hk])
  obtain ⟨S4, hS4⟩ : ∃ S4 : DS, S4 = (((S.new (.cells (.list [.int .i64 0, .int .i64 0]) false)).upd S.next (.cells (.list [.int .i64 x.1, .int .i64 x.2]) false)).new (.cells (.list [.int .i64 x.1]) false)) := ⟨_, rfl⟩
  rw [← hS4]
  have X4 : ∀ F, Ext F S S4 := fun F => by
   rw [hS4]
   have u1 : Ext F S (S.new (.cells (.list [.int .i64 0, .int .i64 0]) false)) := Ext.new
   have u2 : Ext [S.next] (S.new (.cells (.list [.int .i64 0, .int .i64 0]) false)) ((S.new (.cells (.list [.int .i64 0, .int .i64 0]) false)).upd S.next (.cells (.list [.int .i64 x.1, .int .i64 x.2]) false)) := Ext.upd (.inl (by simp))
   exact (u1.trans u2 (by simp)).trans' Ext.new
  have n4 : S4.next = S.next + 2 := by rw [hS4]; simp (maxSteps := 4000000) (maxDischargeDepth := 8) only [Nat.reduceAdd, DS.upd_next, zU, Nat.add_assoc]
  have g4 : S4.get S.next = some (.cells (.list [.int .i64 x.1, .int .i64 x.2]) false) := by rw [hS4]; simp (maxSteps := 4000000) (maxDischargeDepth := 8) only [DS.upd_get_self, DS.upd_next, Option.map_some, zU, zo, zz, zA, DS.upd_good, Nat.lt_add_one, GS]
  have g41 : S4.get (S.next + 1) = some (.cells (.list [.int .i64 x.1]) false) := by rw [hS4]; simp (maxSteps := 4000000) (maxDischargeDepth := 8) only [DS.upd_next, zU, zo, zA, DS.upd_good, GS]
  have G4 := (X4 []).good GS
  have gp4 := (X4 []).keep gpS (by simp)
  have wp4 := (X4 []).wrs wpS
  have hkl : (Ys (L.take (0))).length = 0 := by show (ints _).length = _; rw [ZX, List.length_map, List.length_take]; omega
  have hvl : (We (L.take (0))).length = 0 := by show (ints _).length = _; rw [ZX, List.length_map, List.length_take]; omega
  have hK : Ys (L.take (0)) ++ ints [x.1] = Ys (L.take (0 + 1)) := by unfold Ys ints; rw [List.take_add_one (i := 0), hx]; simp
  have hV : We (L.take (0)) ++ ints [x.2] = We (L.take (0 + 1)) := by unfold We ints; rw [List.take_add_one (i := 0), hx]; simp
  have i1 : (ints [x.1]).length = 1 := rfl
  have i2 : (ints [x.2]).length = 1 := rfl
  have hw4 : SlV S4 1 (.slice (some ⟨S.next + 1, 0, none⟩) 1 1) (ints [x.1]) := .inr ⟨S.next + 1, 0, none, 1, rfl, by unfold DS.read; rw [g41]; rfl⟩
  refine W.mono (Qm (c.ks.keep (X4 []) (by simp)) hw4 (ZT _) (ZT _) G4 (by rw [hkl, i1]; omega) (by rw [hkl, i1]; omega)) ?_
  rintro ⟨kv', S5⟩ ⟨k5, X5, b5, _⟩
  simp only at k5 X5 b5
  rw [hK] at k5
  have le5 := X5.le
  have G5 := X5.good G4
  have gp5 := X5.keep gp4 c.pk
  have wp5 := X5.wrs wp4
  have g45 := X5.keep g4 (fun h => by have := hkS _ h; omega)
  have k5l : ∀ k, k ∈ blk kv' → k < S5.next := fun k hk => k5.lt k hk
  obtain ⟨ak, ck, hk5⟩ := k5.shape
  subst hk5
  simp (maxSteps := 4000000) (maxDischargeDepth := 8) only [zh, ze, zi, zm, zq, zg, zp, zY, ZR, zk, zI, zS, zQ, Zl, Zz, zt, zl, zf, zy, zd, zc, z0, z1, zL, Cells.get, getN, Nat.zero_add, Nat.reduceAdd, Zh, zZ, Zy, List.length_cons, List.length_nil, allOne, zJ, Bool.and_self, Bool.and_true, Bool.and_eq_true, Nat.beq_eq, Nat.ble_eq, Nat.reduceLeDiff, Nat.le_refl, and_self, if_true, DS.wrC, Cells.size, Cells.fillFrom, Cells.set, Zj, z6, List.take_zero, List.drop_succ_cons, List.nil_append, List.drop_nil, List.append_nil, DS.upd_get_self, DS.upd_get_ne, DS.upd_next, Option.map_some, Wl, Yk, repeatZ, ZR, Nat.add_zero, Nat.mul_one, zX, ZW, Nat.reduceLT, Nat.lt_add_one, t4, t6, t35, t36, t37, gp5, wp5, g45, G5, show s2.next + 1 < S5.next by omega, show S.next < S5.next by omega, show ¬ S.next = s2.next + 1 by omega]
  obtain ⟨S6, hS6⟩ : ∃ S6 : DS, S6 = ((S5.upd (s2.next + 1) (.cells (.list [.slice ak (Ys (L.take (0 + 1))).length ck, vv, .int .i64 room]) false)).new (.cells (.list [.int .i64 x.2]) false)) := ⟨_, rfl⟩
  rw [← hS6]
  have X6 : Ext [s2.next + 1] S5 S6 := by rw [hS6]; exact (Ext.upd (.inl (by simp))).trans' Ext.new
  have n6 : S6.next = S5.next + 1 := by rw [hS6]; simp (maxSteps := 4000000) (maxDischargeDepth := 8) only [Nat.zero_add, DS.upd_next, zU]
  have gp6 : S6.get (s2.next + 1) = some (.cells (.list [.slice ak (Ys (L.take (0 + 1))).length ck, vv, .int .i64 room]) false) := by rw [hS6]; simp (maxSteps := 4000000) (maxDischargeDepth := 8) only [Nat.zero_add, DS.upd_get_self, DS.upd_next, Option.map_some, zz, DS.upd_good, gp5, G5, show s2.next + 1 < S5.next by omega]
  have g61 : S6.get S5.next = some (.cells (.list [.int .i64 x.2]) false) := by rw [hS6]; simp (maxSteps := 4000000) (maxDischargeDepth := 8) only [Nat.zero_add, DS.upd_next, zo, DS.upd_good, G5]
  have G6 := X6.good G5
  have wp6 := X6.wrs wp5
  have pvn : ∀ k, k ∈ blk vv → k ∉ [s2.next + 1] := fun k hk e => c.pv (List.mem_singleton.1 e ▸ hk)
  have vs6 := ((c.vs.keep (X4 []) (by simp)).keep X5 fun k hk h => c.kv k h hk).keep X6 pvn
  have hw6 : SlV S6 1 (.slice (some ⟨S5.next, 0, none⟩) 1 1) (ints [x.2]) := .inr ⟨S5.next, 0, none, 1, rfl, by unfold DS.read; rw [g61]; rfl⟩
  refine W.mono (Qm vs6 hw6 (ZT _) (ZT _) G6 (by rw [hvl, i2]; omega) (by rw [hvl, i2]; omega)) ?_
  rintro ⟨vv', S7⟩ ⟨v7, X7, b7, _⟩
  simp only at v7 X7 b7
  rw [hV] at v7
  have le7 := X7.le
  have G7 := X7.good G6
  have gp7 := X7.keep gp6 c.pv
  have wp7 := X7.wrs wp6
  obtain ⟨av, cv, hv7⟩ := v7.shape
  subst hv7
  have hpk' : s2.next + 1 ∉ blk (.slice ak (Ys (L.take (0 + 1))).length ck) := fun h => by
   rcases b5 _ h with h | h
   · exact c.pk h
   · omega
  have hpv' : s2.next + 1 ∉ blk (.slice av (We (L.take (0 + 1))).length cv) := fun h => by
   rcases b7 _ h with h | h
   · exact c.pv h
   · omega
  have hdis : ∀ k, k ∈ blk (.slice ak (Ys (L.take (0 + 1))).length ck) → k ∉ blk vv := fun k hk h => by
   rcases b5 k hk with h1 | h1
   · exact c.kv k h1 h
   · have := hvS k h; omega
  have U8 : ∀ o, Ext [s2.next + 1] S7 (S7.upd (s2.next + 1) o) := fun o => Ext.upd (.inl (by simp))
  simp (maxSteps := 4000000) (maxDischargeDepth := 8) only [zh, ze, zK, zi, zW, zm, zq, zg, zp, zY, zk, zI, zP, zS, zQ, Zz, zt, z7, Zb, zl, zj, zf, zy, zd, zc, z0, z1, Nat.zero_add, Nat.reduceAdd, Zh, Zy, List.length_cons, List.length_nil, allOne, zJ, Bool.and_self, Bool.and_true, Nat.beq_eq, Nat.ble_eq, Nat.reduceLeDiff, if_true, DS.wrC, Cells.size, Cells.fillFrom, Cells.set, Zj, Nat.add_zero, zX, ZW, Nat.reduceLT, Nat.lt_add_one, t4, t6, t35, t36, t37, gp7, wp7, w1]
  refine ⟨L.length - (0 + 1), by omega, ⟨0 + 1, .slice ak (Ys (L.take (0 + 1))).length ck, .slice av (We (L.take (0 + 1))).length cv, rfl, by omega, rfl, ?_, ⟨?_, ?_, ?_, ?_, hpk', hpv', ?_, hso, by rw [List.length_take]; omega⟩, ?_, ?_, (U8 _).good G7⟩⟩
  · simp (maxSteps := 4000000) (maxDischargeDepth := 8) only [zd, zc, z0, Nat.zero_add, Bool.and_self, and_self, zX, ZW, Nat.reduceLT, Nat.lt_add_one, t4, t6, t35, t36, t37]
  · rw [DS.upd_get_self, gp7]; rfl
  · rw [DS.upd_wr]; exact wp7
  · exact ((k5.keep X6 fun k hk e => hpk' (List.mem_singleton.1 e ▸ hk)).keep X7 hdis).keep (U8 _) fun k hk e => hpk' (List.mem_singleton.1 e ▸ hk)
  · exact v7.keep (U8 _) fun k hk e => hpv' (List.mem_singleton.1 e ▸ hk)
  · intro k hk h
    rcases b7 k h with h1 | h1
    · exact hdis k hk h1
    · have := k5l k hk; omega
  · rintro k (hk | hk)
    · rcases b5 k hk with h | h
      · exact hfr k (.inl h)
      · omega
    · rcases b7 k hk with h | h
      · exact hfr k (.inr h)
      · omega
  · exact ((((X.trans' (X4 _)).trans X5 fun k hk => .inr (hfr k (.inl hk))).trans' X6).trans X7 fun k hk => .inr (hfr k (.inr hk))).trans' (U8 _)
 | succ i =>
  have e0 : (0 : Int) < ((i + 1 : Nat) : Int) := by omega
  have hy : L[i]? = some L[i] := List.getElem?_eq_getElem (by omega)
  generalize L[i] = y at hy
  obtain ⟨hy0, hy1⟩ := hfl' i y hy
  have w3 : zE .i64 (((i + 1 : Nat) : Int) - 1) = (i : Int) := by rw [zR (by omega) (by omega)]; omega
  have c3' : i < L.length := by omega
  by_cases c4 : x.1 ≤ y.1
  case pos =>
   simp (maxSteps := 4000000) (maxDischargeDepth := 8) only [zr, zh, zx, zN, zM, zV, ze, Zx, YI, zi, K8, zm, zq, ZH, ZB, zC, zg, zp, zY, zk, zI, Zd, zP, zQ, Yy, Zl, Zz, Zi, zt, z7, Zb, zH, zl, zj, zf, zy, zd, zc, z0, z1, zw, zG, zL, Cells.get, getN, Nat.zero_add, Nat.reduceAdd, Zh, zO, List.length_cons, List.length_nil, allOne, zJ, Bool.and_self, Bool.and_true, Nat.beq_eq, Nat.ble_eq, Nat.blt_eq, Nat.le_refl, if_true, DS.wrC, Cells.size, Cells.fillFrom, Cells.set, Zj, DS.upd_get_self, DS.upd_get_ne, Option.map_some, wrN, YF, ldA, Nat.add_zero, zD, decide_true, DS.read, Cells.take, zo, zz, zA, ZF, zX, ZW, Nat.reduceLT, Nat.lt_add_one, t4, t6, t35, t36, t37, e3, hgb, hx0, hx1, hy0, hy1, c3, c3', GS, e0, gpS, wpS, hpn, hxn, hbn, gxS, w3, c4]
   refine hQ _ ⟨?_, .inl ⟨fun h => ?_, rfl⟩⟩
   · have u1 : Ext [] S (S.new (.cells (.list [.int .i64 0, .int .i64 0]) false)) := Ext.new
     have u2 : Ext [S.next] (S.new (.cells (.list [.int .i64 0, .int .i64 0]) false)) ((S.new (.cells (.list [.int .i64 0, .int .i64 0]) false)).upd S.next (.cells (.list [.int .i64 x.1, .int .i64 x.2]) false)) := Ext.upd (.inl (by simp))
     exact (((X1.trans' X2).trans' (X3 [])).trans X (by simp; omega)).trans' (u1.trans u2 (by simp))
   · have := Pt (hGS.1 h).2.2.2 (show i < i + 1 by omega) hy hx
     omega
  have hso : XZ (L.take (i + 1 + 1)) := by
   rw [List.take_add_one (i := i + 1), hx]
   exact TH c.so (TI c.so hy (by omega))
  simp (maxSteps := 4000000) (maxDischargeDepth := 8) only [zr, zh, zx, zN, zM, ze, zi, zm, zq, ZH, ZB, zC, zu, zg, zp, zY, ZR, zk, zI, Zd, zP, zS, zQ, Yy, Zl, Zz, Zi, zt, z7, Zb, zl, zj, zf, zy, zd, zc, z0, z1, zL, Cells.get, getN, Nat.zero_add, Nat.reduceAdd, Zh, zZ, zO, List.length_cons, List.length_nil, allOne, zJ, Bool.and_self, Bool.and_true, Bool.and_eq_true, Nat.beq_eq, Nat.ble_eq, Nat.blt_eq, Nat.reduceLeDiff, Nat.le_refl, and_self, if_true, DS.wrC, Cells.size, Cells.fillFrom, Cells.set, Zj, z6, List.take_zero, List.drop_succ_cons, List.nil_append, List.drop_nil, List.append_nil, DS.upd_get_self, DS.upd_get_ne, DS.upd_next, Option.map_some, zU, wrN, Wl, Yk, repeatZ, ZR, YF, ldA, Nat.add_zero, zD, Nat.mul_one, decide_true, decide_false, DS.read, Cells.take, zo, zz, zA, ZF, zX, ZW, Nat.reduceLT, Nat.lt_add_one, t4, t6, t35, t36, t37, e3, hgb, hx0, hx1, hy0, hy1, c3, c3', GS, e0, gpS, wpS, hpn, hxn, hbn, gxS, w3, c4]
  have hpS : ∀ k, k ∈ own (s2.next + 1) kv vv → k < S.next := c.lt
  have hkS : ∀ k, k ∈ blk kv → k < S.next := fun k hk => c.lt k (by simp [own, hk])
  have hvS : ∀ k, k ∈ blk vv → k < S.next := fun k hk => c.lt k (by simp [own, hk])
  obtain ⟨S4, hS4⟩ : ∃ S4 : DS, S4 = (((S.new (.cells (.list [.int .i64 0, .int .i64 0]) false)).upd S.next (.cells (.list [.int .i64 x.1, .int .i64 x.2]) false)).new (.cells (.list [.int .i64 x.1]) false)) := ⟨_, rfl⟩
  rw [← hS4]
  have X4 : ∀ F, Ext F S S4 := fun F => by
   rw [hS4]
   have u1 : Ext F S (S.new (.cells (.list [.int .i64 0, .int .i64 0]) false)) := Ext.new
   have u2 : Ext [S.next] (S.new (.cells (.list [.int .i64 0, .int .i64 0]) false)) ((S.new (.cells (.list [.int .i64 0, .int .i64 0]) false)).upd S.next (.cells (.list [.int .i64 x.1, .int .i64 x.2]) false)) := Ext.upd (.inl (by simp))
   exact (u1.trans u2 (by simp)).trans' Ext.new
  have n4 : S4.next = S.next + 2 := by rw [hS4]; simp (maxSteps := 4000000) (maxDischargeDepth := 8) only [Nat.reduceAdd, DS.upd_next, zU, Nat.add_assoc]
  have g4 : S4.get S.next = some (.cells (.list [.int .i64 x.1, .int .i64 x.2]) false) := by rw [hS4]; simp (maxSteps := 4000000) (maxDischargeDepth := 8) only [DS.upd_get_self, DS.upd_next, Option.map_some, zU, zo, zz, zA, DS.upd_good, Nat.lt_add_one, GS]
  have g41 : S4.get (S.next + 1) = some (.cells (.list [.int .i64 x.1]) false) := by rw [hS4]; simp (maxSteps := 4000000) (maxDischargeDepth := 8) only [DS.upd_next, zU, zo, zA, DS.upd_good, GS]
  have G4 := (X4 []).good GS
  have gp4 := (X4 []).keep gpS (by simp)
  have wp4 := (X4 []).wrs wpS
  have hkl : (Ys (L.take (i + 1))).length = i + 1 := by show (ints _).length = _; rw [ZX, List.length_map, List.length_take]; omega
  have hvl : (We (L.take (i + 1))).length = i + 1 := by show (ints _).length = _; rw [ZX, List.length_map, List.length_take]; omega
  have hK : Ys (L.take (i + 1)) ++ ints [x.1] = Ys (L.take (i + 1 + 1)) := by unfold Ys ints; rw [List.take_add_one (i := i + 1), hx]; simp
  have hV : We (L.take (i + 1)) ++ ints [x.2] = We (L.take (i + 1 + 1)) := by unfold We ints; rw [List.take_add_one (i := i + 1), hx]; simp
  have i1 : (ints [x.1]).length = 1 := rfl
  have i2 : (ints [x.2]).length = 1 := rfl
  have hw4 : SlV S4 1 (.slice (some ⟨S.next + 1, 0, none⟩) 1 1) (ints [x.1]) := .inr ⟨S.next + 1, 0, none, 1, rfl, by unfold DS.read; rw [g41]; rfl⟩
  refine W.mono (Qm (c.ks.keep (X4 []) (by simp)) hw4 (ZT _) (ZT _) G4 (by rw [hkl, i1]; omega) (by rw [hkl, i1]; omega)) ?_
  rintro ⟨kv', S5⟩ ⟨k5, X5, b5, _⟩
  simp only at k5 X5 b5
  rw [hK] at k5
  have le5 := X5.le
  have G5 := X5.good G4
  have gp5 := X5.keep gp4 c.pk
  have wp5 := X5.wrs wp4
  have g45 := X5.keep g4 (fun h => by have := hkS _ h; omega)
  have k5l : ∀ k, k ∈ blk kv' → k < S5.next := fun k hk => k5.lt k hk
  obtain ⟨ak, ck, hk5⟩ := k5.shape
  subst hk5
  simp (maxSteps := 4000000) (maxDischargeDepth := 8) only [zh, ze, zi, zm, zq, zg, zp, zY, ZR, zk, zI, zS, zQ, Zl, Zz, zt, zl, zf, zy, zd, zc, z0, z1, zL, Cells.get, getN, Nat.zero_add, Nat.reduceAdd, Zh, zZ, Zy, List.length_cons, List.length_nil, allOne, zJ, Bool.and_self, Bool.and_true, Bool.and_eq_true, Nat.beq_eq, Nat.ble_eq, Nat.reduceLeDiff, Nat.le_refl, and_self, if_true, DS.wrC, Cells.size, Cells.fillFrom, Cells.set, Zj, z6, List.take_zero, List.drop_succ_cons, List.nil_append, List.drop_nil, List.append_nil, DS.upd_get_self, DS.upd_get_ne, DS.upd_next, Option.map_some, Wl, Yk, repeatZ, ZR, Nat.add_zero, Nat.mul_one, zX, ZW, Nat.add_assoc, Nat.reduceLT, Nat.lt_add_one, t4, t6, t35, t36, t37, gp5, wp5, g45, G5, show s2.next + 1 < S5.next by omega, show S.next < S5.next by omega, show ¬ S.next = s2.next + 1 by omega]
  obtain ⟨S6, hS6⟩ : ∃ S6 : DS, S6 = ((S5.upd (s2.next + 1) (.cells (.list [.slice ak (Ys (L.take (i + 1 + 1))).length ck, vv, .int .i64 room]) false)).new (.cells (.list [.int .i64 x.2]) false)) := ⟨_, rfl⟩
  rw [← hS6]
  have X6 : Ext [s2.next + 1] S5 S6 := by rw [hS6]; exact (Ext.upd (.inl (by simp))).trans' Ext.new
  have n6 : S6.next = S5.next + 1 := by rw [hS6]; simp (maxSteps := 4000000) (maxDischargeDepth := 8) only [Nat.reduceAdd, DS.upd_next, zU, Nat.add_assoc]
  have gp6 : S6.get (s2.next + 1) = some (.cells (.list [.slice ak (Ys (L.take (i + 1 + 1))).length ck, vv, .int .i64 room]) false) := by rw [hS6]; simp (maxSteps := 4000000) (maxDischargeDepth := 8) only [Nat.reduceAdd, DS.upd_get_self, DS.upd_next, Option.map_some, zz, DS.upd_good, Nat.add_assoc, gp5, G5, show s2.next + 1 < S5.next by omega]
  have g61 : S6.get S5.next = some (.cells (.list [.int .i64 x.2]) false) := by rw [hS6]; simp (maxSteps := 4000000) (maxDischargeDepth := 8) only [Nat.reduceAdd, DS.upd_next, zo, DS.upd_good, Nat.add_assoc, G5]
  have G6 := X6.good G5
  have wp6 := X6.wrs wp5
  have pvn : ∀ k, k ∈ blk vv → k ∉ [s2.next + 1] := fun k hk e => c.pv (List.mem_singleton.1 e ▸ hk)
  have vs6 := ((c.vs.keep (X4 []) (by simp)).keep X5 fun k hk h => c.kv k h hk).keep X6 pvn
  have hw6 : SlV S6 1 (.slice (some ⟨S5.next, 0, none⟩) 1 1) (ints [x.2]) := .inr ⟨S5.next, 0, none, 1, rfl, by unfold DS.read; rw [g61]; rfl⟩
  refine W.mono (Qm vs6 hw6 (ZT _) (ZT _) G6 (by rw [hvl, i2]; omega) (by rw [hvl, i2]; omega)) ?_
  rintro ⟨vv', S7⟩ ⟨v7, X7, b7, _⟩
  simp only at v7 X7 b7
  rw [hV] at v7
  have le7 := X7.le
  have G7 := X7.good G6
  have gp7 := X7.keep gp6 c.pv
  have wp7 := X7.wrs wp6
  obtain ⟨av, cv, hv7⟩ := v7.shape
  subst hv7
  have hpk' : s2.next + 1 ∉ blk (.slice ak (Ys (L.take (i + 1 + 1))).length ck) := fun h => by
   rcases b5 _ h with h | h
   · exact c.pk h
   · omega
  have hpv' : s2.next + 1 ∉ blk (.slice av (We (L.take (i + 1 + 1))).length cv) := fun h => by
   rcases b7 _ h with h | h
   · exact c.pv h
   · omega
  have hdis : ∀ k, k ∈ blk (.slice ak (Ys (L.take (i + 1 + 1))).length ck) → k ∉ blk vv := fun k hk h => by
   rcases b5 k hk with h1 | h1
   · exact c.kv k h1 h
   · have := hvS k h; omega
  have U8 : ∀ o, Ext [s2.next + 1] S7 (S7.upd (s2.next + 1) o) := fun o => Ext.upd (.inl (by simp))
  simp (maxSteps := 4000000) (maxDischargeDepth := 8) only [zh, ze, zK, zi, zW, zm, zq, zg, zp, zY, zk, zI, zP, zS, zQ, Zz, zt, z7, Zb, zl, zj, zf, zy, zd, zc, z0, z1, Nat.zero_add, Nat.reduceAdd, Zh, Zy, List.length_cons, List.length_nil, allOne, zJ, Bool.and_self, Bool.and_true, Nat.beq_eq, Nat.ble_eq, Nat.reduceLeDiff, if_true, DS.wrC, Cells.size, Cells.fillFrom, Cells.set, Zj, Nat.add_zero, zX, ZW, Nat.add_assoc, Nat.reduceLT, Nat.lt_add_one, t4, t6, t35, t36, t37, gp7, wp7, w1]
  refine ⟨L.length - (i + 1 + 1), by omega, ⟨i + 1 + 1, .slice ak (Ys (L.take (i + 1 + 1))).length ck, .slice av (We (L.take (i + 1 + 1))).length cv, rfl, by omega, rfl, ?_, ⟨?_, ?_, ?_, ?_, hpk', hpv', ?_, hso, by rw [List.length_take]; omega⟩, ?_, ?_, (U8 _).good G7⟩⟩
  · simp (maxSteps := 4000000) (maxDischargeDepth := 8) only [zd, zc, z0, Nat.reduceAdd, Bool.and_self, and_self, zX, ZW, Nat.add_assoc, Nat.reduceLT, Nat.lt_add_one, t4, t6, t35, t36, t37]
  · rw [DS.upd_get_self, gp7]; rfl
  · rw [DS.upd_wr]; exact wp7
  · exact ((k5.keep X6 fun k hk e => hpk' (List.mem_singleton.1 e ▸ hk)).keep X7 hdis).keep (U8 _) fun k hk e => hpk' (List.mem_singleton.1 e ▸ hk)
  · exact v7.keep (U8 _) fun k hk e => hpv' (List.mem_singleton.1 e ▸ hk)
  · intro k hk h
    rcases b7 k h with h1 | h1
    · exact hdis k hk h1
    · have := k5l k hk; omega
  · rintro k (hk | hk)
    · rcases b5 k hk with h | h
      · exact hfr k (.inl h)
      · omega
    · rcases b7 k hk with h | h
      · exact hfr k (.inr h)
      · omega
  · exact ((((X.trans' (X4 _)).trans X5 fun k hk => .inr (hfr k (.inl hk))).trans' X6).trans X7 fun k hk => .inr (hfr k (.inr hk))).trans' (U8 _)
end
end Go.Dx.StA
namespace Go.Dx.StA
open Go Go.Dx Go.Dx.Search Go.Dx.St Go.Proofs.Ytnmajohhfcgddaa
structure CS (E : Env) : Prop where
 fGet : E.fn 28 = some d28
 iGet : E.intr 28 = none
 fNext : E.fn 29 = some d29
 iNext : E.intr 29 = none
 fDel : E.fn 27 = some d27
 iDel : E.intr 27 = none
section
variable {E : Env} (hR : Tz E) (hR2 : CS E) {s s' : DS} {d : Nat} {q : Nat} {v : Value} {L : List Ent} {room : Int} {F : List Nat}
include hR hR2
theorem Pu (hlf : L.length < E.lf) (hl : L.length < 1000000) (c : Jh s q v L room) (k : Int) : dcall E (d + 2) (.func (.func 28) #[] #[]) [.pointer (some ⟨q, 0, none⟩), .int .i64 k] s = some (.tuple ⟨[.int .i64 (valOf k L), .bool (YU k L)]⟩, s) := by
 have hfind := Ky hR hlf hl c k (d := d)
 have gq := c.gq
 have hel := ZY L
 rw [← Jg, zT hR2.iGet hR2.fGet rfl]
 cases hin : YU k L with
 | false =>
  rw [hin] at hfind
  have hv : valOf k L = 0 := by
   unfold YU at hin
   unfold valOf
   cases hx : L[pos k L]? with
   | none => rfl
   | some x => rw [hx] at hin; simp at hin; simp [hin]
  rw [hv]
  simp (maxSteps := 4000000) only [zr, zh, zx, zV, ze, Zx, zi, zm, zq, zC, zg, zp, zk, zI, Qn, Yg, zF, zt, zH, zl, zj, zB, zf, zd, zc, Nat.reduceEqDiff, z0, zn, List.getElem?_cons_zero, List.getElem?_cons_succ, z1, zw, zG, z4, z5, getN, reduceCtorEq, Bool.not_false, pp, pv, d28, hfind]
 | true =>
  rw [hin] at hfind
  obtain ⟨x, hx, hk⟩ := XX hin
  have hil := (List.getElem?_eq_some_iff.1 hx).1
  have hv : valOf k L = x.2 := by unfold valOf; rw [hx]; simp [hk]
  rw [hv]
  obtain ⟨b, sp, hvv, hsp, hb, hwb⟩ := c.sl.at (fun e => by rw [e] at hel; simp at hel; omega)
  rw [hel] at hvv
  rw [hvv] at gq
  have hg1 := Qt hx
  simp (maxSteps := 4000000) only [zr, zh, zx, zM, zV, ze, zi, zm, zq, zu, zg, zp, zk, zI, Qn, zS, zQ, Yy, Yg, Zl, zF, zt, zH, zl, zj, zB, zf, zd, zc, Nat.reduceEqDiff, z0, zn, List.getElem?_cons_zero, List.getElem?_cons_succ, z1, zw, zG, z4, z5, zL, Cells.get, getN, Nat.zero_add, Nat.blt_eq, if_true, reduceCtorEq, Bool.not_true, pp, pv, Nat.add_zero, zD, d28, hfind, gq, hb, hil, hg1]
theorem SE (hlf : L.length < E.lf) (hl : L.length < 1000000) (c : Jh s q v L room) (k : Int) : dcall E (d + 2) (.func (.func 29) #[] #[]) [.pointer (some ⟨q, 0, none⟩), .int .i64 k] s = some (.tuple ⟨Q8 k L⟩, s) := by
 have hfind := Ky hR hlf hl c k (d := d)
 have gq := c.gq
 have hel := ZY L
 have hple := Qg k L
 rw [← Jg, zT hR2.iNext hR2.fNext rfl]
 by_cases hlt : pos k L < L.length
 · have hx : L[pos k L]? = some L[pos k L] := List.getElem?_eq_getElem hlt
   generalize L[pos k L] = x at hx
   have hna : Q8 k L = [.int .i64 x.1, .int .i64 x.2, .bool true] := by unfold Q8; rw [hx]
   rw [hna]
   obtain ⟨b, sp, hvv, hsp, hb, hwb⟩ := c.sl.at (fun e => by rw [e] at hel; simp at hel; omega)
   rw [hel] at hvv
   rw [hvv] at gq
   have hg1 := Qt hx
   have hg0 := WV hx
   have e1 : ¬ (L.length : Int) ≤ (pos k L : Int) := by omega
   simp (maxSteps := 4000000) only [zr, zh, zx, zM, zV, ze, zi, zm, zq, zu, zg, zp, zk, zI, zP, zS, zQ, Yy, Yg, Zk, Zl, zF, zt, z7, Zb, zH, zl, zj, zB, zf, zd, zc, Nat.reduceEqDiff, z0, zn, List.getElem?_cons_zero, List.getElem?_cons_succ, z1, zw, zG, z4, z5, zL, Cells.get, getN, Nat.zero_add, Nat.blt_eq, if_true, reduceCtorEq, pp, pv, Nat.add_zero, zD, decide_false, d29, hfind, gq, hb, hlt, hg1, hg0, e1]
 · have hx : L[pos k L]? = none := List.getElem?_eq_none (by omega)
   have hna : Q8 k L = [.int .i64 0, .int .i64 0, .bool false] := by unfold Q8; rw [hx]
   rw [hna]
   obtain ⟨a, hvv⟩ := c.sl.shape
   rw [hel] at hvv
   rw [hvv] at gq
   have e1 : (L.length : Int) ≤ (pos k L : Int) := by omega
   simp (maxSteps := 4000000) only [zr, zh, zx, zV, ze, Zx, zi, zm, zq, zC, zg, zp, zk, zI, zP, zS, zQ, Yg, Zk, Zl, zF, zt, z7, Zb, zH, zl, zj, zB, zf, zd, zc, Nat.reduceEqDiff, z0, zn, List.getElem?_cons_zero, List.getElem?_cons_succ, z1, zw, zG, z4, z5, zL, Cells.get, getN, if_true, reduceCtorEq, pp, pv, Nat.add_zero, decide_true, d29, hfind, gq, e1]
theorem Py (hlf : L.length < E.lf) (hl : L.length < 1000000) (c : Jh s q v L room) (hG : s.Good) (k : Int) :
 W (dcall E (d + 2) (.func (.func 27) #[] #[]) [.pointer (some ⟨q, 0, none⟩), .int .i64 k] s) fun r => r.1 = .bool (YU k L) ∧ ∃ w, Jh r.2 q w (WY k L) room ∧ Ext [q] s r.2 ∧ ∀ j, j ∈ blk w → j ∈ blk v ∨ s.next ≤ j := by
 have hfind := Ky hR hlf hl c k (d := d)
 have gq := c.gq
 have wq := c.wq
 have hql := DS.get_lt' gq
 have hvl := c.sl.lt
 obtain ⟨av, hv⟩ := c.sl.shape
 have hel := ZY L
 refine Zw fun Q hQ => ?_
 rw [zT hR2.iDel hR2.fDel rfl]
 cases hin : YU k L with
 | false =>
  rw [hin] at hfind hQ
  have hd : WY k L = L := by unfold WY; rw [hin]; simp
  rw [hd] at hQ
  simp (maxSteps := 4000000) only [zr, zh, zx, zM, zV, ze, zi, zm, zq, zu, zg, zp, zk, zI, Yg, zF, zt, zH, zl, zj, zB, zf, zd, zc, Nat.reduceEqDiff, z0, zn, List.getElem?_cons_zero, List.getElem?_cons_succ, z1, zw, zG, z4, z5, getN, reduceCtorEq, pp, pv, d27, hfind]
  exact hQ _ ⟨rfl, v, c, .refl, fun j hj => .inl hj⟩
 | true =>
  rw [hin] at hfind hQ
  have hd : WY k L = L.eraseIdx (pos k L) := by unfold WY; rw [hin]; simp
  obtain ⟨x, hx, hk⟩ := XX hin
  have hil := (List.getElem?_eq_some_iff.1 hx).1
  have gq' := gq
  rw [hv, hel] at gq'
  have hnq' : ∀ o, (s.new o).get q = some (.cells (.list [.slice av L.length L.length, .int .i64 room]) false) := fun o => (DS.new_get_lt hql).trans gq'
  have hq1 : Nat.ble s.next q = false := by rw [Yb]; omega
  have hv' := hv
  rw [hel] at hv'
  have w1p : zE .i64 ((pos k L : Int) + 1) = ((pos k L + 1 : Nat) : Int) := by rw [zR (by omega) (by omega)]; omega
  obtain ⟨w1, e1, v1, _, b1⟩ := FA c.sl (Ye L) (lo := none) (hi := some (.int .i64 (pos k L : Int))) (i := 0) (j := pos k L) rfl rfl (Nat.zero_le _) (by omega)
  obtain ⟨w2, e2, v2, _, b2⟩ := FA c.sl (Ye L) (lo := some (.int .i64 ((pos k L + 1 : Nat) : Int))) (hi := none) (i := pos k L + 1) (j := (ZM L).length) rfl rfl (by omega) (Nat.le_refl _)
  have v1' : SlV s 2 w1 (ZM (L.take (pos k L))) := by have := v1; rwa [List.drop_zero, show (ZM L).take (pos k L) = ZM (L.take (pos k L)) from List.map_take.symm] at this
  have v2' : SlV s 2 w2 (ZM (L.drop (pos k L + 1))) := by have := v2; rwa [List.take_length, show (ZM L).drop (pos k L + 1) = ZM (L.drop (pos k L + 1)) from List.map_drop.symm] at this
  rw [hv'] at e1 e2
  simp (maxSteps := 4000000) only [zr, zh, zx, ze, zi, zm, zq, YO, Jv, zC, zg, ZV, Yu, zp, ZR, zk, zI, zP, zS, zQ, Yg, Zl, zF, zt, z7, Zb, zl, zj, zB, zf, zd, zc, Nat.reduceEqDiff, z0, zn, List.getElem?_cons_zero, List.getElem?_cons_succ, z1, z4, z5, zL, Cells.get, getN, Nat.ble_eq, Nat.reduceLeDiff, if_true, reduceCtorEq, z6, List.nil_append, List.cons_append, pp, pv, Option.map_some, zU, Tb, Ke, Wl, Yk, Option.map_none, repeatZ, ZR, QI, Nat.add_zero, Nat.zero_mul, foot, YC, hidden, noteAt, Bool.or_false, Bool.false_and, d27, hfind, gq', hnq', YC, hidden, noteAt, Bool.or_false, Bool.false_and, hq1, e1, e2, w1p]
  obtain ⟨S2, hS2⟩ : ∃ S2 : DS, S2 = s.new (.cells (.list []) false) := ⟨_, rfl⟩
  rw [← hS2]
  have X2 : Ext [] s S2 := by rw [hS2]; exact Ext.new
  have hG2 := X2.good hG
  have n2 : S2.next = s.next + 1 := by rw [hS2]; rfl
  have ga : S2.get s.next = some (.cells (.list []) false) := by rw [hS2]; simp (maxSteps := 4000000) (maxDischargeDepth := 8) only [zo, hG]
  have wa : S2.wr s.next = true := X2.wrs (hG _ (Nat.le_refl _)).2
  clear hS2
  have o1 : ZI 2 (ZM (L.take (pos k L))) := Ye _
  have l1 : (ZM (L.take (pos k L))).length ≤ 1000000 := by rw [ZY, List.length_take]; omega
  have l2 : (ZM (L.drop (pos k L + 1))).length ≤ 1000000 := by rw [ZY, List.length_drop]; omega
  refine W.mono (F3 (s := S2) (lx := []) (ly := ZM (L.take (pos k L))) (.inr ⟨s.next, none, rfl, .inl rfl, ga, wa⟩) (v1'.of fun j hj => X2.get j (hvl j (b1 j hj)) (by simp)) ZI.nil o1 hG2 (by simp; omega) (by simp; omega) ?_ ?_ ?_) ?_
  · intro j hj
    simp [blk] at hj
    subst hj
    exact ⟨by (simp only [hidden, shielded, noteAt, Z2, Bool.or_false, Bool.or_eq_false_iff, Bool.and_eq_false_iff, Yb, Yr, Yv, true_and, and_true, true_or, or_true] <;> omega), by (simp only [hidden, shielded, noteAt, Z2, Bool.or_false, Bool.or_eq_false_iff, Bool.and_eq_false_iff, Yb, Yr, Yv, true_and, and_true, true_or, or_true] <;> omega)⟩
  · intro j hj
    have := hvl j (b1 j hj)
    (simp only [hidden, shielded, noteAt, Z2, Bool.or_false, Bool.or_eq_false_iff, Bool.and_eq_false_iff, Yb, Yr, Yv, true_and, and_true, true_or, or_true] <;> omega)
  · intro j hj
    exact ⟨by (simp only [hidden, shielded, noteAt, Z2, Bool.or_false, Bool.or_eq_false_iff, Bool.and_eq_false_iff, Yb, Yr, Yv, true_and, and_true, true_or, or_true] <;> omega), by (simp only [hidden, shielded, noteAt, Z2, Bool.or_false, Bool.or_eq_false_iff, Bool.and_eq_false_iff, Yb, Yr, Yv, true_and, and_true, true_or, or_true] <;> omega)⟩
  rintro ⟨w3, s3⟩ ⟨x3, X3, b3, n3⟩
  simp only [List.nil_append] at x3 X3 b3 n3
  obtain ⟨S3, hS3⟩ : ∃ S3 : DS, S3 = unmask S2 s3 := ⟨_, rfl⟩
  rw [← hS3] at x3 X3 n3
  have hG3 := X3.good hG2
  have X3' : Ext [] s S3 := X2.trans X3 (by simp [blk])
  have hb3 : ∀ j, j ∈ blk w3 → s.next ≤ j := fun j hj => by
   rcases b3 j hj with h | h
   · simp [blk] at h; omega
   · omega
  simp (maxSteps := 4000000) only [YO, Yu, zl, zf, zd, zc, Nat.reduceEqDiff, z0, z1, List.nil_append, List.cons_append, Wl, foot, ← hS3, n3]
  refine W.mono (WJ x3 (v2'.of fun j hj => X3'.get j (hvl j (b2 j hj)) (by simp)) o1 (Ye _) hG3 (by omega) (by omega)) ?_
  rintro ⟨w5, s5⟩ ⟨x5, X5, b5⟩
  simp only at x5 X5 b5
  have X5' : Ext [] s s5 := X3'.trans X5 (fun j hj => .inr (hb3 j hj))
  have hb5 : ∀ j, j ∈ blk w5 → s.next ≤ j := fun j hj => by
   rcases b5 j hj with h | h
   · exact hb3 j h
   · have := X3'.le; omega
  have gq5 := X5'.keep gq' (by simp)
  have wq5 := X5'.wrs wq
  obtain ⟨a5, hw5⟩ := x5.shape
  subst hw5
  have hcat : ZM (L.take (pos k L)) ++ ZM (L.drop (pos k L + 1)) = ZM (WY k L) := by
   rw [hd, List.eraseIdx_eq_take_drop_succ]
   unfold ZM
   rw [List.map_append]
  rw [hcat] at x5 hb5 ⊢
  simp (maxSteps := 4000000) only [zr, zh, zV, ze, zi, zm, zq, YO, zg, ZV, zp, zY, zk, zI, zS, zQ, Zz, zt, zH, zl, zf, zy, zd, zc, Nat.reduceEqDiff, z0, z1, zw, zG, Nat.zero_add, Nat.reduceAdd, Zh, Zy, List.length_cons, List.length_nil, allOne, zJ, Bool.and_self, Bool.and_true, Nat.beq_eq, Nat.ble_eq, Nat.reduceLeDiff, if_true, DS.wrC, Cells.size, Cells.fillFrom, Cells.set, Zj, List.nil_append, List.cons_append, DS.upd_next, Nat.add_zero, foot, gq5, wq5]
  refine hQ _ ⟨rfl, .slice a5 (ZM (WY k L)).length (ZM (WY k L)).length, ⟨?_, ?_, ?_, ?_, V3 c.so k⟩, ?_, ?_⟩
  · simp (maxSteps := 4000000) only [DS.upd_get_self, Option.map_some, gq5]
  · simp (maxSteps := 4000000) only [DS.upd_wr, wq5]
  · exact x5.keep (Ext.upd (F := [q]) (.inl (by simp))) fun j hj => by have := hb5 j hj; simp; omega
  · intro hq
    have := hb5 q hq
    omega
  · exact (X5'.weaken (by simp)).trans' (Ext.upd (.inl (by simp)))
  · exact fun j hj => .inr (hb5 j hj)
end
end Go.Dx.StA
namespace Go.Dx.StA
open Go Go.Dx Go.Dx.Search Go.Dx.St Go.Proofs.Ytnmajohhfcgddaa
structure R9 (E : Env) : Prop where
 fClone : E.fn 46 = some d46
 iClone : E.intr 46 = none
 fFork : E.fn 24 = some d24
 iFork : E.intr 24 = none
 fr : ∀ d, Z4 (dcall E d)
section
variable {E : Env} (hK : R9 E) {s : DS} {d : Nat} {v : Value} {l : List Int} {p : Nat} {kv vv : Value} {L : List Ent} {room : Int}
include hK
theorem Cg (h : SlC s 1 v (ints l)) (hG : s.Good) (hl : l.length ≤ 1000000) : W (dcall E (d + 1) (.func (.func 46) #[] #[]) [v] s) fun r => SlX r.2 1 r.1 (ints l) ∧ Ext [] s r.2 ∧ ∀ k, k ∈ blk r.1 → s.next ≤ k := by
 refine Zw fun Q hQ => ?_
 rw [zT hK.iClone hK.fClone rfl]
 have hv := h.view (ZT l)
 have hlt := h.lt
 have hil := ZX l
 rcases hv with ⟨rfl, h0⟩ | ⟨b, off, sp, c, rfl, hrd⟩
 · have hl0 : l = [] := by simpa [ints] using h0
   subst hl0
   simp (maxSteps := 4000000) only [zr, zh, zx, zV, ze, Zx, zi, zm, zq, zC, zg, ZD, zk, zI, Z5, Zv, zH, zl, zj, zf, zd, zc, z0, zn, List.getElem?_cons_zero, z1, zw, zG, if_false, reduceCtorEq, Bool.not_true, z3, pp, pv, Option.isNone_none, d46]
   exact hQ _ ⟨.nil, .refl, by simp [blk]⟩
 · simp (maxSteps := 4000000) only [zr, zh, zx, zM, ze, zi, zm, zq, zu, zg, ZD, ZR, zk, zI, Z5, Zv, zl, zj, zf, zd, zc, Nat.reduceEqDiff, z0, zn, List.getElem?_cons_zero, z1, Nat.ble_eq, Nat.reduceLeDiff, if_false, reduceCtorEq, Bool.not_false, z3, z6, pp, pv, Wl, Yk, repeatZ, ZR, Nat.mul_one, d46]
   refine W.mono (WJ (lx := []) (ly := ints l) (.inr ⟨s.next, none, rfl, .inl rfl, DS.new_get_self hG, (hG _ (Nat.le_refl _)).2⟩) ((h.view (ZT l)).of fun j hj => DS.new_get_lt (hlt j hj)) ZI.nil (ZT l) (DS.new_good hG) (by simp; omega) (by simp; omega)) ?_
   rintro ⟨w3, s3⟩ ⟨x3, X3, b3⟩
   simp only [blk, List.nil_append] at x3 X3 b3
   simp (maxSteps := 4000000) only [zV, ze, zi, zm, zq, zg, zk, zI, zH, zl, zf, zd, z1, zw, zG]
   refine hQ _ ⟨x3, (Ext.new (F := [])).trans X3 (by simp), fun k hk => ?_⟩
   rcases b3 k hk with h | h
   · simp at h; omega
   · have : s.next + 1 ≤ k := h
     omega
theorem Nh (c : Xg s p kv vv L room) (hG : s.Good) : W (dcall E (d + 2) (.func (.func 24) #[] #[]) [.pointer (some ⟨p, 0, none⟩)] s) fun r => ∃ p' kv' vv', r.1 = .pointer (some ⟨p', 0, none⟩) ∧ Xg r.2 p' kv' vv' L room ∧ Ext [] s r.2 ∧ ∀ k, k ∈ own p' kv' vv' → s.next ≤ k := by
 have gp := c.gp
 have hpl := DS.get_lt' gp
 have hlen := c.len
 refine Zw fun Q hQ => ?_
 rw [zT hK.iFork hK.fFork rfl]
 have hkl : (L.map (·.1)).length ≤ 1000000 := by rw [List.length_map]; omega
 have hvl : (L.map (·.2)).length ≤ 1000000 := by rw [List.length_map]; omega
 have hkp := c.pk
 have hvp := c.pv
 simp (maxSteps := 4000000) only [zr, zh, zx, zM, ze, zi, zm, zq, YO, Jv, zu, zg, ZV, zp, ZD, zk, zI, Z5, zS, zQ, Zl, zF, zt, Zv, zl, zj, zB, zf, zd, zc, Nat.reduceEqDiff, z0, zn, List.getElem?_cons_zero, z1, z4, z5, zL, Cells.get, getN, Nat.zero_add, if_false, reduceCtorEq, Bool.not_false, z3, List.nil_append, List.cons_append, pp, pv, Nat.add_zero, foot, d24, gp]
 refine W.masked (hK.fr _) (Cg hK (d := d) (c.ks.of (s' := mask _ _ _) fun k hk => ?_) (Wu hG fun k hk => ?_) hkl) ?_
 · have : ¬ k = p := fun h => hkp (h ▸ hk)
   exact ⟨YC (by (simp only [hidden, shielded, noteAt, Z2, Bool.or_false, Bool.or_eq_false_iff, Bool.and_eq_false_iff, Yb, Yr, Yv, true_and, and_true, true_or, or_true] <;> omega)), fun hw => QN hw (by (simp only [hidden, shielded, noteAt, Z2, Bool.or_false, Bool.or_eq_false_iff, Bool.and_eq_false_iff, Yb, Yr, Yv, true_and, and_true, true_or, or_true] <;> omega)) (by (simp only [hidden, shielded, noteAt, Z2, Bool.or_false, Bool.or_eq_false_iff, Bool.and_eq_false_iff, Yb, Yr, Yv, true_and, and_true, true_or, or_true] <;> omega))⟩
 · exact ⟨by (simp only [hidden, shielded, noteAt, Z2, Bool.or_false, Bool.or_eq_false_iff, Bool.and_eq_false_iff, Yb, Yr, Yv, true_and, and_true, true_or, or_true] <;> omega), by (simp only [hidden, shielded, noteAt, Z2, Bool.or_false, Bool.or_eq_false_iff, Bool.and_eq_false_iff, Yb, Yr, Yv, true_and, and_true, true_or, or_true] <;> omega)⟩
 rintro v1 s1 ⟨x1, X1, b1⟩ df
 simp only at x1 X1 b1
 have X1' := Ext.unmask' X1 df
 have x1' := x1.of (s' := unmask s s1) fun k hk => ⟨WP (by (simp only [hidden, shielded, noteAt, Z2, Bool.or_false, Bool.or_eq_false_iff, Bool.and_eq_false_iff, Yb, Yr, Yv, true_and, and_true, true_or, or_true] <;> omega)) X1, fun hw => by
  rw [X1.wr] at hw
  simp [mask] at hw
  exact hw.1.1⟩
 obtain ⟨S1, hS1⟩ : ∃ S1 : DS, S1 = unmask s s1 := ⟨_, rfl⟩
 have n1 : s1.next = S1.next := by rw [hS1]; rfl
 rw [← hS1] at X1' x1'
 have hG1 := X1'.good hG
 have c1 := c.keep X1' (by simp)
 simp (maxSteps := 4000000) only [Jv, Yu, zF, zl, zB, zf, zd, zc, Nat.reduceEqDiff, z0, z1, z4, z5, List.nil_append, List.cons_append, foot, ← hS1, n1]
 refine W.masked (hK.fr _) (Cg hK (d := d) (c1.vs.of (s' := mask _ _ _) fun k hk => ?_) (Wu hG1 fun k hk => ?_) hvl) ?_
 · have : ¬ k = p := fun h => hvp (h ▸ hk)
   exact ⟨YC (by (simp only [hidden, shielded, noteAt, Z2, Bool.or_false, Bool.or_eq_false_iff, Bool.and_eq_false_iff, Yb, Yr, Yv, true_and, and_true, true_or, or_true] <;> omega)), fun hw => QN hw (by (simp only [hidden, shielded, noteAt, Z2, Bool.or_false, Bool.or_eq_false_iff, Bool.and_eq_false_iff, Yb, Yr, Yv, true_and, and_true, true_or, or_true] <;> omega)) (by (simp only [hidden, shielded, noteAt, Z2, Bool.or_false, Bool.or_eq_false_iff, Bool.and_eq_false_iff, Yb, Yr, Yv, true_and, and_true, true_or, or_true] <;> omega))⟩
 · have := X1'.le
   exact ⟨by (simp only [hidden, shielded, noteAt, Z2, Bool.or_false, Bool.or_eq_false_iff, Bool.and_eq_false_iff, Yb, Yr, Yv, true_and, and_true, true_or, or_true] <;> omega), by (simp only [hidden, shielded, noteAt, Z2, Bool.or_false, Bool.or_eq_false_iff, Bool.and_eq_false_iff, Yb, Yr, Yv, true_and, and_true, true_or, or_true] <;> omega)⟩
 rintro v2 s2 ⟨x2, X2, b2⟩ df2
 simp only at x2 X2 b2
 have X2' := Ext.unmask' X2 df2
 have x2' := x2.of (s' := unmask S1 s2) fun k hk => ⟨WP (by (simp only [hidden, shielded, noteAt, Z2, Bool.or_false, Bool.or_eq_false_iff, Bool.and_eq_false_iff, Yb, Yr, Yv, true_and, and_true, true_or, or_true] <;> omega)) X2, fun hw => by
  rw [X2.wr] at hw
  simp [mask] at hw
  exact hw.1.1⟩
 obtain ⟨S2, hS2⟩ : ∃ S2 : DS, S2 = unmask S1 s2 := ⟨_, rfl⟩
 have n2 : s2.next = S2.next := by rw [hS2]; rfl
 rw [← hS2] at X2' x2'
 have hG2 := X2'.good hG1
 have x1'' := x1'.keep X2' (by simp)
 have hlt1 := x1'.lt
 have hlt1' := x1''.lt
 have hlt2 := x2'.lt
 obtain ⟨a1, hv1⟩ := x1.shape
 obtain ⟨a2, hv2⟩ := x2.shape
 subst hv1 hv2
 simp (maxSteps := 4000000) only [zV, ze, zi, zm, YO, ZV, Yu, YA, zk, zI, Yf, Xe, zH, zl, zf, zd, zc, Nat.reduceEqDiff, z0, z1, zw, zG, Nat.zero_add, Nat.reduceAdd, zZ, Zy, zO, List.length_cons, List.length_nil, Bool.and_self, Bool.and_eq_true, Nat.beq_eq, Nat.ble_eq, Nat.reduceLeDiff, Nat.le_refl, and_self, if_true, z6, List.take_zero, List.take_succ_cons, List.drop_succ_cons, List.drop_zero, List.nil_append, List.cons_append, List.drop_nil, List.append_nil, zU, foot, ← hS2, n2]
 have hX : Ext [] s S2 := X1'.trans' X2'
 have hb1 : ∀ k, k ∈ blk (.slice a1 (ints (L.map (·.1))).length (ints (L.map (·.1))).length) → s.next ≤ k := b1
 have hb2 : ∀ k, k ∈ blk (.slice a2 (ints (L.map (·.2))).length (ints (L.map (·.2))).length) → S1.next ≤ k := b2
 have XN : ∀ ob, Ext [] S2 (S2.new ob) := fun ob => Ext.new
 refine hQ _ ⟨S2.next, _, _, rfl, ⟨DS.new_get_self hG2, (hG2 _ (Nat.le_refl _)).2, ?_, ?_, ?_, ?_, ?_, c.so, c.len⟩, hX.trans' Ext.new, ?_⟩
 · exact (x1''.keep (XN _) (by simp)).room (ZT _) (by rw [ZX]; omega)
 · exact (x2'.keep (XN _) (by simp)).room (ZT _) (by rw [ZX]; omega)
 · exact fun hk => Nat.lt_irrefl _ (hlt1' _ hk)
 · exact fun hk => Nat.lt_irrefl _ (hlt2 _ hk)
 · intro k hk hk2
   have h1 := hlt1 k hk
   have h2 := hb2 k hk2
   omega
 · intro k hk
   simp only [own, List.mem_cons, List.mem_append] at hk
   rcases hk with rfl | hk | hk
   · exact hX.le
   · exact hb1 k hk
   · have := hb2 k hk; have := X1'.le; omega
end
end Go.Dx.StA
