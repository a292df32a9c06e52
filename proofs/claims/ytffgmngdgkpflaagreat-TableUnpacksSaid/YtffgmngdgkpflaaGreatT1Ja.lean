/- A part. -/
import Derived.Test.YtffgmngdgkpflaaGreatT1Ga
import Derived.Test.YtffgmngdgkpflaaGreatDxF
set_option linter.unusedVariables false
set_option linter.unusedSimpArgs false
set_option linter.unusedSectionVars false
set_option maxRecDepth 100000
set_option maxHeartbeats 4000000
namespace Go.Dx.TbA
open Go Go.Dx Go.Dx.Tab Go.Proofs.YtffgmngdgkpflaaGreat
structure Cp (E : Env) : Prop where
 fTake : E.fn 57 = some d57
 iTake : E.intr 57 = none
 fLow : E.fn 56 = some d56
 iLow : E.intr 56 = none
 fCount : E.fn 55 = some d55
 iCount : E.intr 55 = none
 fMany : E.fn 26 = some d26
 iMany : E.intr 26 = none
 fInt : E.fn 28 = some d28
 iInt : E.intr 28 = none
 fByte : E.fn 27 = some d27
 iByte : E.intr 27 = none
 fFlag : E.fn 29 = some d29
 iFlag : E.intr 29 = none
 fBlob : E.fn 30 = some d30
 iBlob : E.intr 30 = none
 fMay : E.fn 38 = some d38
 iMay : E.intr 38 = none
 fmay : E.fn 31 = some d31
 imay : E.intr 31 = none
 fRR : E.fn 32 = some d32
 iRR : E.intr 32 = none
 fr : ∀ d, ZR (dcall E d)
 lf : 10000 ≤ E.lf
section
variable {E : Env} (hR : Cp E) {s : DS} {r : Nat} {bv : Value} {bs : List Int} {bad : Bool} {d : Nat}
include hR
theorem CF (h : YK s r bv bs bad) (hG : s.Good) (hl : bs.length ≤ 1048576) (n : Nat) (hn : n ≤ 65536) :
 W (dcall E (d + 1) (.func (.func 57) #[] #[]) [.pointer (some ⟨r, 0, none⟩), .int .i64 (n : Int)] s) fun p => ∃ bv', SlX p.2 1 p.1 (Zy (tk n (bs, bad)).1) ∧ YK p.2 r bv' (tk n (bs, bad)).2.1 (tk n (bs, bad)).2.2 ∧ Ext [r] s p.2 ∧ ∀ k, k ∈ blk bv' → k ∈ blk bv := by
 have gr := h.gr
 have wr := h.wr
 have hrl := DS.get_lt' gr
 obtain ⟨ba, bc, hbv⟩ := h.sl.len
 refine Zh fun Q hQ => ?_
 rw [zP hR.iTake hR.fTake rfl]
 have e1 : ¬ (n : Int) < 0 := by omega
 have X : ∀ o, Ext [r] s (s.upd r o) := fun o => Ext.upd (.inl (by simp))
 have fail : tk n (bs, bad) = ([], (bs, true)) → Q (.slice none 0 0, s.upd r (.cells (.list [bv, .bool true]) false)) := by
  intro ht
  rw [ht] at hQ
  refine hQ _ ⟨bv, .inl ⟨rfl, rfl⟩, ⟨by rw [DS.upd_get_self, gr]; rfl, by rw [DS.upd_wr]; exact wr, h.sl.keep (X _) (fun k hk e => ?_), h.ne⟩, X _, fun k hk => hk⟩
  have e := List.mem_singleton.1 e
  subst e
  exact h.ne hk
 cases bad with
 | true =>
  have := fail (by unfold tk; rw [if_pos (.inl rfl)])
  simp (maxSteps := 4000000) only [zq, zg, zD, zI, za, Zf, zf, zl, zo, Zm, Yg, zN, ze, zr, zU, zj, zK, zR, z8, zF, z9, Zx, zp, zu, zi, zm, zd, zE, zb, zc, Nat.reduceEqDiff, z0, zh, List.getElem?_cons_zero, z1, zn, zy, zG, Cells.get, getN, Nat.zero_add, Nat.reduceAdd, Zd, ZO, List.length_cons, List.length_nil, zL, zH, Bool.and_self, Bool.and_true, Nat.beq_eq, Nat.ble_eq, Nat.le_refl, if_true, if_false, reduceCtorEq, z3, DS.wrC, Cells.size, Cells.fillFrom, Cells.set, Zb, List.nil_append, pp, pv, pw, pg, d57, gr, wr]
  exact this
 | false =>
  by_cases c1 : bs.length < n
  · have := fail (by unfold tk; rw [if_pos (.inr c1)])
    have e2 : (bs.length : Int) < (n : Int) := by omega
    subst hbv
    simp (maxSteps := 4000000) only [zq, zg, zD, zI, za, Zf, zf, zl, zo, Zm, zY, zN, ze, zr, zU, zj, zK, zR, zV, z8, zF, ZE, z9, Zx, zp, Zc, zX, zu, zi, zm, zd, zE, zb, zc, Nat.reduceEqDiff, z0, zh, List.getElem?_cons_zero, List.getElem?_cons_succ, z1, zn, zy, zG, Cells.get, getN, Nat.zero_add, Nat.reduceAdd, Zd, ZO, List.length_cons, List.length_nil, zL, zH, Bool.and_self, Bool.and_true, Nat.beq_eq, Nat.ble_eq, Nat.le_refl, if_true, if_false, reduceCtorEq, z3, DS.wrC, Cells.size, Cells.fillFrom, Cells.set, Zb, pp, pv, pw, pg, Nat.add_zero, decide_true, decide_false, d57, gr, wr, e1, e2]
    exact this
  · have ht : tk n (bs, false) = (bs.take n, (bs.drop n, false)) := by unfold tk; rw [if_neg (by simp; omega)]
    rw [ht] at hQ
    have e2 : ¬ (bs.length : Int) < (n : Int) := by omega
    obtain ⟨w1, hw1, r1, b1⟩ := h.sl.take (i := n) (by omega)
    obtain ⟨w2, hw2, r2, b2⟩ := h.sl.drop (i := n) (by omega)
    have hd : ∀ k, k ∈ blk bv → k ∉ [r] := fun k hk e => h.ne (List.mem_singleton.1 e ▸ hk)
    have hlt := h.sl.lt
    obtain ⟨a2, c2, h2⟩ := r2.len
    subst h2
    have hbv' := hbv
    subst hbv
    simp (maxSteps := 4000000) (maxDischargeDepth := 8) only [zq, zg, zD, zO, za, zf, zl, zo, Zm, zY, zt, ze, zr, Wg, zj, zK, zR, zV, z8, zF, ZE, z9, zp, Zc, zX, zi, zm, zd, zb, zc, z0, zh, List.getElem?_cons_zero, List.getElem?_cons_succ, z1, zG, Cells.get, getN, Nat.zero_add, Nat.ble_eq, Nat.reduceLeDiff, if_true, if_false, z3, zM, pp, pv, pw, pg, Option.map_some, RW, KC, W6, Option.map_none, repeatZ, Wg, Nat.add_zero, Nat.mul_one, decide_false, zw, zJ, Nat.reduceLT, Nat.lt_add_one, Nat.succ_pos, d57, gr, wr, e1, e2, hw1, hw2, hG, hrl]
    obtain ⟨S1, hS1⟩ : ∃ S1 : DS, S1 = s.new (.cells (.list []) false) := ⟨_, rfl⟩
    rw [← hS1]
    have X1 : ∀ F, Ext F s S1 := fun F => by rw [hS1]; exact Ext.new
    have g1 : S1.get s.next = some (.cells (.list []) false) := by rw [hS1]; exact DS.new_get_self hG
    have v1 := (r1.keep (X1 []) (by simp)).view
    rw [← XP] at v1
    have hx : SlX S1 1 (.slice (some ⟨s.next, 0, none⟩) 0 0) [] := .inr ⟨s.next, none, rfl, .inl rfl, g1, (X1 []).wrs (hG _ (Nat.le_refl _)).2⟩
    refine W.mono (QR hx v1 ⟨(fun y hy => nomatch hy), (fun y hy => nomatch hy)⟩ (YM _) ((X1 []).good hG) (by rw [Ze, List.length_take]; simp; omega) (by rw [Ze, List.length_take]; simp; omega)) ?_
    rintro ⟨v5, S5⟩ ⟨h5, X5, b5⟩
    simp only [List.nil_append] at h5 X5 b5
    have XS : Ext [] s S5 := (X1 []).trans X5 (by simp [blk])
    have gr5 := XS.keep gr (by simp)
    have wr5 := XS.wrs wr
    have G5 := XS.good hG
    have n5 := XS.le
    have le1 := (X1 []).le
    have n1 : S1.next = s.next + 1 := by rw [hS1]; rfl
    have h5b : ∀ k, k ∈ blk v5 → s.next ≤ k := fun k hk => by
     rcases b5 k hk with h | h
     · simp [blk] at h; omega
     · omega
    have U : ∀ o, Ext [r] S5 (S5.upd r o) := fun o => Ext.upd (.inl (by simp))
    simp (maxSteps := 4000000) (maxDischargeDepth := 8) only [zq, zg, zI, za, zf, zl, zo, ze, zr, zU, zj, zK, z8, zF, z9, Zx, zp, zu, zi, zd, zE, zb, zc, z0, zh, List.getElem?_cons_zero, List.getElem?_cons_succ, z1, zn, zy, zG, Cells.get, getN, Nat.zero_add, Nat.reduceAdd, Zd, YE, List.length_cons, List.length_nil, zL, zH, Bool.and_self, Bool.and_true, Nat.beq_eq, Nat.ble_eq, Nat.reduceLeDiff, if_true, DS.wrC, Cells.size, Cells.fillFrom, Cells.set, Zb, Option.map_some, RW, Option.map_none, Nat.add_zero, zJ, Nat.reduceLT, Nat.lt_add_one, Nat.succ_pos, gr5, wr5, G5, hw2, show r < S5.next by omega]
    exact hQ _ ⟨_, h5.keep (U _) (fun k hk => by have := h5b k hk; simp; omega), ⟨by rw [DS.upd_get_self, gr5]; rfl, by rw [DS.upd_wr]; exact wr5, (r2.keep XS (by simp)).keep (U _) fun k hk => hd k (b2 k hk), fun hk => h.ne (b2 _ hk)⟩, (XS.weaken (by simp)).trans' (U _), b2⟩
structure EC (s1 : DS) (w : Value) (l : List Int) (n : Nat) (y : St) : Prop where
 ex : n ≤ l.length ∧ y.s = s1 ∧ y.defers = [] ∧ (y.t.get 5 = some w ∧ y.t.get 6 = some (.int .u64 (leV (l.drop n))) ∧ y.t.get 7 = some (.int .i64 ((n : Int) - 1)))
theorem SU (h : YK s r bv bs bad) (hG : s.Good) (hB : IsB bs) (hl : bs.length ≤ 1048576) (n : Nat) (hn : n ≤ 8) :
 W (dcall E (d + 2) (.func (.func 56) #[] #[]) [.pointer (some ⟨r, 0, none⟩), .int .i64 (n : Int)] s) fun p => p.1 = .int .u64 (leV (tk n (bs, bad)).1) ∧ ∃ bv', YK p.2 r bv' (tk n (bs, bad)).2.1 (tk n (bs, bad)).2.2 ∧ Ext [r] s p.2 ∧ ∀ k, k ∈ blk bv' → k ∈ blk bv := by
 have hlf := hR.lf
 refine Zh fun Q hQ => ?_
 rw [zP hR.iLow hR.fLow rfl]
 simp (maxSteps := 4000000) only [zq, zg, za, zf, zl, zo, ze, zK, zB, zi, zm, zA, zd, zb, zc, Nat.reduceEqDiff, z0, zh, List.getElem?_cons_zero, List.getElem?_cons_succ, z1, z4, z5, reduceCtorEq, pp, pv, d56]
 refine W.mono (CF hR h hG hl n (by omega)) ?_
 rintro ⟨w, s1⟩ ⟨bv', hw, hin, X1, hb1⟩
 simp only at hw hin X1 hb1
 obtain ⟨ll, hll⟩ : ∃ ll, ll = (tk n (bs, bad)).1 := ⟨_, rfl⟩
 have hlB : IsB ll := by
  rw [hll]
  unfold tk
  split
  · exact fun b hb => nomatch hb
  · exact hB.take n
 have hls : ll.length ≤ n := by
  rw [hll]
  unfold tk
  split
  · exact Nat.zero_le _
  · rw [List.length_take]; exact Nat.min_le_left ..
 rw [← hll] at hw hQ
 obtain ⟨wa, hwv⟩ := hw.shape
 rw [Ze] at hwv
 have w0 : Zj .i64 ((ll.length : Int) - 1) = (ll.length : Int) - 1 := ZV (by omega) (by omega)
 subst hwv
 simp (maxSteps := 4000000) only [zq, zg, Zp, za, zf, zl, zo, ze, zr, zj, zK, zV, ZE, zp, Zc, zX, zi, zm, zd, zb, zc, Nat.reduceEqDiff, z0, z1, if_true, w0]
 refine Wc (EC s1 (.slice wa ll.length ll.length) ll) ll.length (by omega) ⟨Nat.le_refl _, rfl, rfl, by simp (maxSteps := 4000000) only [zb, zc, Nat.reduceEqDiff, z0, Bool.and_true, Bool.true_and, and_true, true_and, List.drop_length]; rfl⟩ ?_
 rintro j ⟨t, s2, ds⟩ hn ⟨hj, hs2, hds, ⟨g5, g6, g7⟩⟩
 simp only at hs2 hds g5 g6 g7
 subst hs2 hds
 cases j with
 | zero =>
  have e1 : ¬ (0 : Int) ≤ ((0 : Nat) : Int) - 1 := by omega
  simp (maxSteps := 4000000) only [zq, zg, zD, zI, Yx, za, ZH, ZI, zf, ZN, zl, zo, zt, ze, zr, zj, zK, zV, Zc, zX, zu, zi, zm, zd, zb, zc, Nat.reduceEqDiff, z0, z1, zn, zy, if_true, List.drop_zero, decide_false, g5, g6, g7, e1]
  exact hQ _ ⟨rfl, bv', hin, X1, hb1⟩
 | succ j =>
  have e1 : (0 : Int) ≤ ((j + 1 : Nat) : Int) - 1 := by omega
  have c1 : j < ll.length := by omega
  have hx : ll[j]? = some ll[j] := List.getElem?_eq_getElem c1
  have hdr : ll.drop j = ll[j] :: ll.drop (j + 1) := List.drop_eq_getElem_cons c1
  generalize ll[j] = x at hx hdr
  have hxr := hlB x (List.mem_of_getElem? hx)
  have hr := XX (hlB.drop (j + 1))
  have hr2 := XX (hlB.drop j)
  have h8 := D7 (j := (ll.drop j).length) (by rw [List.length_drop]; omega)
  have hle : leV (ll.drop j) = x + 256 * leV (ll.drop (j + 1)) := by rw [hdr]; rfl
  have w1 : Zj .u64 (leV (ll.drop (j + 1)) * 256) = 256 * leV (ll.drop (j + 1)) := by rw [Int.mul_comm]; exact WS (by omega) (by omega)
  have w2 : Zj .u64 x = x := WS hxr.1 (by omega)
  have w3 : Zj .u64 (256 * leV (ll.drop (j + 1)) + x) = leV (ll.drop j) := by rw [hle, Int.add_comm]; exact WS (by omega) (by omega)
  have w4 : ((j + 1 : Nat) : Int) - 1 = (j : Int) := by omega
  have w5 : Zj .i64 ((j : Int) - 1) = (j : Int) - 1 := ZV (by omega) (by omega)
  have e0 : (0 : Int) ≤ (j : Int) := by omega
  obtain ⟨b, sp, hv', _, hb, _⟩ := hw.at (fun e => by have := Ze ll; rw [e] at this; simp at this; omega)
  rw [Ze] at hv'
  injection hv' with hv1 hv2 hv3
  subst hv1
  have hg : getN (Zy ll).flatten j = some (.int .u8 x) := by
   have hmx : (Zy ll)[j]? = some [.int .u8 x] := by unfold Zy; rw [List.getElem?_map, hx]; rfl
   have := W5 (n := 1) (j := 0) (fun y hy => (by obtain ⟨z, _, rfl⟩ := List.mem_map.1 hy; rfl : y.length = 1)) hmx rfl
   rwa [Nat.mul_one, Nat.add_zero] at this
  rw [w4] at g7
  simp (maxSteps := 4000000) only [zq, zg, zD, Zp, zO, za, Zk, zf, ZB, zl, zo, zN, ze, zr, zj, zK, zV, XH, FO, z9, zp, Zc, zX, zi, zm, zd, zb, zc, Nat.reduceEqDiff, z0, z1, zG, Cells.get, Nat.zero_add, Nat.blt_eq, if_true, Zq, Nat.mul_one, decide_true, g5, g6, g7, e0, c1, hb, hg, w1, w2, w3, w5]
  exact ⟨j, by omega, ⟨by omega, rfl, rfl, by simp (maxSteps := 4000000) only [zb, zc, Nat.reduceEqDiff, z0, Bool.and_self, and_self, g5]⟩⟩
theorem Ka (h : YK s r bv bs bad) (hG : s.Good) (hB : IsB bs) (hl : bs.length ≤ 1048576) {n : Nat} (hn : n < 8) {most : Int} (hm : 0 ≤ most) :
 W (dcall E (d + 3) (.func (.func 55) #[] #[]) [.pointer (some ⟨r, 0, none⟩), .int .i64 (n : Int), .int .i64 most] s) (SJ s r bv Xt (rdN n most (bs, bad))) := by
 refine Zh fun Q hQ => ?_
 rw [zP hR.iCount hR.fCount rfl]
 simp (maxSteps := 4000000) only [zq, zg, za, zf, zl, zo, ze, zK, zB, zi, zm, zA, zd, zb, zc, Nat.reduceEqDiff, z0, zh, List.getElem?_cons_zero, List.getElem?_cons_succ, z1, z4, z5, reduceCtorEq, pp, pv, d55]
 refine W.mono (SU hR h hG hB hl n (by omega)) ?_
 rintro ⟨w, s1⟩ ⟨hw, bv', hin, X1, hb1⟩
 simp only at hw hin X1 hb1
 subst hw
 obtain ⟨ll, hll⟩ : ∃ ll, ll = (tk n (bs, bad)).1 := ⟨_, rfl⟩
 have hlB : IsB ll := by
  rw [hll]
  unfold tk
  split
  · exact fun b hb => nomatch hb
  · exact hB.take n
 have hls : ll.length ≤ n := by
  rw [hll]
  unfold tk
  split
  · exact Nat.zero_le _
  · rw [List.length_take]; exact Nat.min_le_left ..
 rw [← hll]
 have hrv := XX hlB
 have h7 := D8 (j := ll.length) (by omega)
 have hi : Zj .i64 (leV ll) = leV ll := ZV (by omega) (by omega)
 have gr := hin.gr
 have wr := hin.wr
 have hrl := DS.get_lt' gr
 have GS := X1.good hG
 by_cases cA : most < leV ll
 · have hrd : rdN n most (bs, bad) = (0, ((tk n (bs, bad)).2.1, true)) := by
    unfold rdN
    rw [← hll, if_pos (show n < 8 ∧ most < leV ll from ⟨hn, cA⟩)]
    split
    · rename_i hb
      exact Prod.ext rfl (Prod.ext rfl hb)
    · rfl
   rw [hrd] at hQ
   have fin : Q (.int .i64 0, s1.upd r (.cells (.list [bv', .bool true]) false)) :=
    hQ _ ⟨bv', rfl, ⟨by rw [DS.upd_get_self, gr]; rfl, by rw [DS.upd_wr]; exact wr, hin.sl.keep (Ext.upd (F := [r]) (.inl (by simp))) (fun k hk e => hin.ne (List.mem_singleton.1 e ▸ hk)), hin.ne⟩, X1.trans' (Ext.upd (.inl (by simp))), hb1⟩
   simp (maxSteps := 4000000) (maxDischargeDepth := 8) only [zq, zg, zD, zI, za, Zf, zf, zl, zo, zN, ze, zr, zU, zj, zK, zV, XH, z8, zF, z9, Zx, zp, Zc, zX, zu, zi, zm, zd, zE, zb, zc, z0, zh, List.getElem?_cons_zero, List.getElem?_cons_succ, z1, zn, zy, zG, Cells.get, getN, Nat.zero_add, Nat.reduceAdd, Zd, ZO, List.length_cons, List.length_nil, zL, zH, Bool.and_self, Bool.and_true, Nat.beq_eq, Nat.ble_eq, Nat.le_refl, if_true, DS.wrC, Cells.size, Cells.fillFrom, Cells.set, Zb, DS.upd_get_self, Option.map_some, decide_true, zJ, Nat.reduceLT, Nat.lt_add_one, Nat.succ_pos, hi, cA, gr, wr, GS, hrl]
   exact fin
 · cases hbad : (tk n (bs, bad)).2.2 with
   | true =>
    have hrd : rdN n most (bs, bad) = (0, (tk n (bs, bad)).2) := by unfold rdN; rw [if_pos hbad]
    rw [hbad] at gr
    rw [hrd] at hQ
    have fin : Q (.int .i64 0, s1) := hQ _ ⟨bv', rfl, hin, X1, hb1⟩
    simp (maxSteps := 4000000) (maxDischargeDepth := 8) only [zq, zg, zD, zO, zI, za, Zf, zf, zl, zo, zN, zt, ze, zr, zj, zK, zV, XH, z8, zF, z9, zp, Zc, zX, zu, zi, zm, zd, zb, zc, z0, zh, List.getElem?_cons_zero, List.getElem?_cons_succ, z1, zn, zy, zG, Cells.get, getN, Nat.zero_add, if_true, decide_false, zJ, Nat.reduceLT, Nat.lt_add_one, Nat.succ_pos, hi, cA, gr, wr, GS, hrl]
    exact fin
   | false =>
    have hrd : rdN n most (bs, bad) = (Zj .i64 (leV ll), (tk n (bs, bad)).2) := by
     unfold rdN
     rw [if_neg (by rw [hbad]; simp), ← hll, if_neg fun h => cA h.2]
    rw [hbad] at gr
    rw [hrd, hi] at hQ
    have fin : Q (.int .i64 (leV ll), s1) := hQ _ ⟨bv', rfl, hin, X1, hb1⟩
    simp (maxSteps := 4000000) (maxDischargeDepth := 8) only [zq, zg, zD, zO, zI, za, zf, zl, zo, zt, ze, zr, zj, zK, zV, XH, z8, zF, z9, zp, Zc, zX, zu, zi, zd, zb, zc, z0, zh, List.getElem?_cons_zero, List.getElem?_cons_succ, z1, zn, zy, zG, Cells.get, getN, Nat.zero_add, if_true, decide_false, zJ, Nat.reduceLT, Nat.lt_add_one, Nat.succ_pos, hi, cA, gr, wr, GS, hrl]
    exact fin
theorem NG (h : YK s r bv bs bad) (hG : s.Good) (hB : IsB bs) (hl : bs.length ≤ 1048576) :
 W (dcall E (d + 4) (.func (.func 26) #[] #[]) [.pointer (some ⟨r, 0, none⟩)] s) (SJ s r bv Xt (rdN 2 4096 (bs, bad))) := by
 refine Zh fun Q hQ => ?_
 rw [zP hR.iMany hR.fMany rfl]
 simp (maxSteps := 4000000) only [zq, zg, za, zf, zl, zo, ze, zK, zB, zi, zm, zA, zd, zb, zc, z0, zh, List.getElem?_cons_zero, z1, z4, z5, reduceCtorEq, pp, pv, d26]
 refine W.mono (Ka hR h hG hB hl (n := 2) (by omega) (by omega)) ?_
 rintro ⟨w, s1⟩ h1
 simp (maxSteps := 4000000) only [zI, za, zf, zl, zo, ze, zj, zK, zu, zi, zd, zb, z1, zn, zy]
 exact hQ _ h1
theorem Gg (h : YK s r bv bs bad) (hG : s.Good) (hB : IsB bs) (hl : bs.length ≤ 1048576) :
 W (dcall E (d + 3) (.func (.func 28) #[] #[]) [.pointer (some ⟨r, 0, none⟩)] s) (SJ s r bv Xt (rdN 8 0 (bs, bad))) := by
 refine Zh fun Q hQ => ?_
 rw [zP hR.iInt hR.fInt rfl]
 simp (maxSteps := 4000000) only [zq, zg, za, zf, zl, zo, ze, zK, zB, zi, zm, zA, zd, zb, zc, z0, zh, List.getElem?_cons_zero, z1, z4, z5, reduceCtorEq, pp, pv, d28]
 refine W.mono (SU hR h hG hB hl 8 (by omega)) ?_
 rintro ⟨w, s1⟩ ⟨hw, bv', hin, X1, hb1⟩
 simp only at hw hin X1 hb1
 subst hw
 have hrd : rdN 8 0 (bs, bad) = (Zj .i64 (leV (tk 8 (bs, bad)).1), (tk 8 (bs, bad)).2) := by
  unfold rdN
  by_cases hb : (tk 8 (bs, bad)).2.2 = true
  · rw [if_pos hb]
    have : (tk 8 (bs, bad)).1 = [] := by
     unfold tk at hb ⊢
     split
     · rfl
     · rename_i h1
       rw [if_neg h1] at hb
       cases hb
    rw [this]
    rfl
  · rw [if_neg hb, if_neg (by simp)]
 rw [hrd] at hQ
 simp (maxSteps := 4000000) only [zI, za, zf, zl, zo, ze, zr, zj, zK, XH, zp, zu, zi, zd, zb, z1, zn, zy]
 exact hQ _ ⟨bv', rfl, hin, X1, hb1⟩
theorem GW (h : YK s r bv bs bad) (hG : s.Good) (hB : IsB bs) (hl : bs.length ≤ 1048576) :
 W (dcall E (d + 4) (.func (.func 27) #[] #[]) [.pointer (some ⟨r, 0, none⟩)] s) (SJ s r bv Xt (rdN 1 255 (bs, bad))) := by
 refine Zh fun Q hQ => ?_
 rw [zP hR.iByte hR.fByte rfl]
 simp (maxSteps := 4000000) only [zq, zg, za, zf, zl, zo, ze, zK, zB, zi, zm, zA, zd, zb, zc, z0, zh, List.getElem?_cons_zero, z1, z4, z5, reduceCtorEq, pp, pv, d27]
 refine W.mono (Ka hR h hG hB hl (n := 1) (by omega) (by omega)) ?_
 rintro ⟨w, s1⟩ h1
 simp (maxSteps := 4000000) only [zI, za, zf, zl, zo, ze, zj, zK, zu, zi, zd, zb, z1, zn, zy]
 exact hQ _ h1
theorem CG (h : YK s r bv bs bad) (hG : s.Good) (hB : IsB bs) (hl : bs.length ≤ 1048576) :
 W (dcall E (d + 4) (.func (.func 29) #[] #[]) [.pointer (some ⟨r, 0, none⟩)] s) (SJ s r bv GN (rdF (bs, bad))) := by
 refine Zh fun Q hQ => ?_
 rw [zP hR.iFlag hR.fFlag rfl]
 simp (maxSteps := 4000000) only [zq, zg, za, zf, zl, zo, ze, zK, zB, zi, zm, zA, zd, zb, zc, z0, zh, List.getElem?_cons_zero, z1, z4, z5, reduceCtorEq, pp, pv, d29]
 refine W.mono (Ka hR h hG hB hl (n := 1) (by omega) (by omega)) ?_
 rintro ⟨w, s1⟩ ⟨bv', hw, hin, X1, hb1⟩
 simp only at hw hin X1 hb1
 have hw : w = _ := hw
 subst hw
 by_cases c : (rdN 1 1 (bs, bad)).1 = 1
 · have c' : ((rdN 1 1 (bs, bad)).1 = 1) = True := eq_true c
   simp (maxSteps := 4000000) only [zI, za, zf, zl, zo, ze, zr, zj, zK, zV, Zc, zX, zu, zi, zm, zd, zb, z1, zn, zy, if_true, decide_true, c']
   exact hQ _ ⟨bv', by show Value.bool true = .bool (decide _); rw [decide_eq_true c], hin, X1, hb1⟩
 · have c' : ((rdN 1 1 (bs, bad)).1 = 1) = False := eq_false c
   simp (maxSteps := 4000000) only [zI, za, zf, zl, zo, ze, zr, zj, zK, zV, Zc, zX, zu, zi, zm, zd, zb, z1, zn, zy, if_true, decide_false, c']
   exact hQ _ ⟨bv', by show Value.bool false = .bool (decide _); rw [decide_eq_false c], hin, X1, hb1⟩
theorem NW (h : YK s r bv bs bad) (hG : s.Good) (hB : IsB bs) (hl : bs.length ≤ 1048576) :
 W (dcall E (d + 4) (.func (.func 30) #[] #[]) [.pointer (some ⟨r, 0, none⟩)] s) fun p => ∃ bv', SlX p.2 1 p.1 (Zy (rdB (bs, bad)).1) ∧ YK p.2 r bv' (rdB (bs, bad)).2.1 (rdB (bs, bad)).2.2 ∧ Ext [r] s p.2 ∧ ∀ k, k ∈ blk bv' → k ∈ blk bv := by
 refine Zh fun Q hQ => ?_
 rw [zP hR.iBlob hR.fBlob rfl]
 simp (maxSteps := 4000000) only [zq, zg, za, zf, zl, zo, ze, zK, zB, zi, zm, zA, zd, zb, zc, z0, zh, List.getElem?_cons_zero, z1, z4, z5, reduceCtorEq, pp, pv, d30]
 refine W.mono (Ka hR h hG hB hl (n := 4) (by omega) (by omega)) ?_
 rintro ⟨w, s1⟩ ⟨bv1, hw, hin, X1, hb1⟩
 simp only at hw hin X1 hb1
 have hw : w = _ := hw
 subst hw
 have hr := Wu (size := 4) (most := 65536) (bs, bad) hB (by decide) (by decide)
 obtain ⟨k, hk⟩ := (Zo 4 65536).suf (bs, bad)
 obtain ⟨N, hN⟩ : ∃ N : Nat, (N : Int) = (rdN 4 65536 (bs, bad)).1 := ⟨(rdN 4 65536 (bs, bad)).1.toNat, Int.toNat_of_nonneg hr.1⟩
 have hE : rdB (bs, bad) = tk N (rdN 4 65536 (bs, bad)).2 := by
  unfold rdB
  rw [← hN, Int.toNat_natCast]
 rw [hE] at hQ
 rw [← hN]
 obtain ⟨st, hst⟩ : ∃ st, st = (rdN 4 65536 (bs, bad)).2 := ⟨_, rfl⟩
 rw [← hst] at hin hQ hk
 simp (maxSteps := 4000000) only [zo, ze, zB, zi, zA, zd, zb, zc, Nat.reduceEqDiff, z0, z1, z4, z5]
 refine W.mono (CF hR (d := d + 2) hin (X1.good hG) (by rw [hk]; simp; omega) N (by omega)) ?_
 rintro ⟨v2, s2⟩ ⟨bv2, h2, i2, X2, b2⟩
 simp only at h2 i2 X2 b2
 simp (maxSteps := 4000000) only [zI, za, zf, zl, zo, ze, zj, zK, zu, zi, zd, zb, z1, zn, zy]
 exact hQ _ ⟨bv2, h2, i2, X1.trans' X2, fun k hk => hb1 k (b2 k hk)⟩
end
end Go.Dx.TbA
namespace Go.Dx.TbA
open Go Go.Dx Go.Dx.Tab Go.Proofs.YtffgmngdgkpflaaGreat
section
variable {E : Env} {s : DS} {d : Nat}
theorem Dq (hf : E.fn 38 = some d38) (hi : E.intr 38 = none) (hG : s.Good) (r : Rp) : W (dcall E (d + 1) (.func (.func 38) #[] #[]) [.agg ⟨r.cells⟩] s) fun x => x.1 = .bool (decide (Xi r)) ∧ Ext [] s x.2 := by
 refine Zh fun Q hQ => ?_
 rw [zP hi hf rfl]
 cases hrej : r.rej with
 | false =>
  have hnr : ¬ (r.rej = true ∧ (r.trap ≠ 0 ∨ r.v ≠ 0 ∨ r.gas ≠ 0)) := fun h => by rw [hrej] at h; cases h.1
  by_cases c1 : 0 ≤ r.c
  · skip
    by_cases c2 : r.c ≤ 63
    · skip
      by_cases c3 : 1 ≤ r.n
      · skip
        by_cases c4 : r.n ≤ 1099511627776
        · skip
          by_cases c5 : 0 ≤ r.trap
          · skip
            by_cases c6 : r.trap ≤ 6
            · skip
              by_cases c7 : 0 ≤ r.gas
              · skip
                by_cases c8 : r.gas ≤ 1048576
                · skip
                  have hyes : Xi r := ⟨hnr, ⟨c1, c2, c3, c4⟩, c5, c6, c7, c8⟩
                  rw [decide_eq_true hyes] at hQ
                  simp (maxSteps := 4000000) (maxDischargeDepth := 8) only [zq, zg, zD, zO, zI, za, zf, zl, zo, Zm, Za, Zv, zt, ze, zr, zj, zK, zR, zV, zF, z9, ZA, zp, Zc, zX, zu, zi, zm, zd, zb, zc, z0, zh, List.getElem?_cons_zero, z1, zn, zy, zG, Cells.get, getN, Nat.zero_add, zx, if_true, if_false, z3, List.nil_append, pp, pv, pw, pg, zQ, Nat.add_zero, decide_true, YH, zk, zJ, Nat.reduceLT, Nat.lt_add_one, d38, hG, Rp.cells, hrej, c1, c2, c3, c4, c5, c6, c7, c8]
                  exact hQ _ ⟨rfl, Ext.new⟩
                · have hno : ¬ Xi r := fun h => c8 h.2.2.2.2.2
                  rw [decide_eq_false hno] at hQ
                  simp (maxSteps := 4000000) (maxDischargeDepth := 8) only [zq, zg, zD, zO, zI, za, zf, zl, zo, Zm, Za, Zv, zt, ze, zr, zj, zK, zR, zV, zF, z9, ZA, zp, Zc, zX, zu, zi, zm, zd, zb, zc, z0, zh, List.getElem?_cons_zero, z1, zn, zy, zG, Cells.get, getN, Nat.zero_add, zx, if_true, if_false, z3, List.nil_append, pp, pv, pw, pg, zQ, Nat.add_zero, decide_true, decide_false, YH, zk, zJ, Nat.reduceLT, Nat.lt_add_one, d38, hG, Rp.cells, hrej, c1, c2, c3, c4, c5, c6, c7, c8]
                  exact hQ _ ⟨rfl, Ext.new⟩
              · have hno : ¬ Xi r := fun h => c7 h.2.2.2.2.1
                rw [decide_eq_false hno] at hQ
                simp (maxSteps := 4000000) (maxDischargeDepth := 8) only [zq, zg, zD, zO, zI, za, zf, zl, zo, Zm, Za, Zv, zt, ze, zr, zj, zK, zR, zV, zF, z9, ZA, zp, Zc, zX, zu, zi, zm, zd, zb, zc, z0, zh, List.getElem?_cons_zero, z1, zn, zy, zG, Cells.get, getN, Nat.zero_add, zx, if_true, if_false, z3, List.nil_append, pp, pv, pw, pg, zQ, Nat.add_zero, decide_true, decide_false, YH, zk, zJ, Nat.reduceLT, Nat.lt_add_one, d38, hG, Rp.cells, hrej, c1, c2, c3, c4, c5, c6, c7]
                exact hQ _ ⟨rfl, Ext.new⟩
            · have hno : ¬ Xi r := fun h => c6 h.2.2.2.1
              rw [decide_eq_false hno] at hQ
              simp (maxSteps := 4000000) (maxDischargeDepth := 8) only [zq, zg, zD, zO, zI, za, zf, zl, zo, Zm, Za, Zv, zt, ze, zr, zj, zK, zR, zV, zF, z9, ZA, zp, Zc, zX, zu, zi, zm, zd, zb, zc, z0, zh, List.getElem?_cons_zero, z1, zn, zy, zG, Cells.get, getN, Nat.zero_add, zx, if_true, if_false, z3, List.nil_append, pp, pv, pw, pg, zQ, Nat.add_zero, decide_true, decide_false, YH, zk, zJ, Nat.reduceLT, Nat.lt_add_one, d38, hG, Rp.cells, hrej, c1, c2, c3, c4, c5, c6]
              exact hQ _ ⟨rfl, Ext.new⟩
          · have hno : ¬ Xi r := fun h => c5 h.2.2.1
            rw [decide_eq_false hno] at hQ
            simp (maxSteps := 4000000) (maxDischargeDepth := 8) only [zq, zg, zD, zO, zI, za, zf, zl, zo, Zm, Za, Zv, zt, ze, zr, zj, zK, zR, zV, zF, z9, ZA, zp, Zc, zX, zu, zi, zm, zd, zb, zc, z0, zh, List.getElem?_cons_zero, z1, zn, zy, zG, Cells.get, getN, Nat.zero_add, zx, if_true, if_false, z3, List.nil_append, pp, pv, pw, pg, zQ, Nat.add_zero, decide_true, decide_false, YH, zk, zJ, Nat.reduceLT, Nat.lt_add_one, d38, hG, Rp.cells, hrej, c1, c2, c3, c4, c5]
            exact hQ _ ⟨rfl, Ext.new⟩
        · have hno : ¬ Xi r := fun h => c4 h.2.1.2.2.2
          rw [decide_eq_false hno] at hQ
          simp (maxSteps := 4000000) (maxDischargeDepth := 8) only [zq, zg, zD, zO, zI, za, zf, zl, zo, Zm, Za, Zv, zt, ze, zr, zj, zK, zR, zV, zF, z9, ZA, zp, Zc, zX, zu, zi, zm, zd, zb, zc, z0, zh, List.getElem?_cons_zero, z1, zn, zy, zG, Cells.get, getN, Nat.zero_add, zx, if_true, if_false, z3, List.nil_append, pp, pv, pw, pg, zQ, Nat.add_zero, decide_true, decide_false, YH, zk, zJ, Nat.reduceLT, Nat.lt_add_one, d38, hG, Rp.cells, hrej, c1, c2, c3, c4]
          exact hQ _ ⟨rfl, Ext.new⟩
      · have hno : ¬ Xi r := fun h => c3 h.2.1.2.2.1
        rw [decide_eq_false hno] at hQ
        simp (maxSteps := 4000000) (maxDischargeDepth := 8) only [zq, zg, zD, zO, zI, za, zf, zl, zo, Zm, Za, Zv, zt, ze, zr, zj, zK, zR, zV, zF, z9, ZA, zp, Zc, zX, zu, zi, zm, zd, zb, zc, z0, zh, List.getElem?_cons_zero, z1, zn, zy, zG, Cells.get, getN, Nat.zero_add, zx, if_true, if_false, z3, List.nil_append, pp, pv, pw, pg, zQ, Nat.add_zero, decide_true, decide_false, YH, zk, zJ, Nat.reduceLT, Nat.lt_add_one, d38, hG, Rp.cells, hrej, c1, c2, c3]
        exact hQ _ ⟨rfl, Ext.new⟩
    · have hno : ¬ Xi r := fun h => c2 h.2.1.2.1
      rw [decide_eq_false hno] at hQ
      simp (maxSteps := 4000000) (maxDischargeDepth := 8) only [zq, zg, zD, zO, zI, za, zf, zl, zo, Zm, Za, Zv, zt, ze, zr, zj, zK, zR, zV, zF, z9, ZA, zp, Zc, zX, zu, zi, zm, zd, zb, zc, z0, zh, List.getElem?_cons_zero, z1, zn, zy, zG, Cells.get, getN, Nat.zero_add, zx, if_true, if_false, z3, List.nil_append, pp, pv, pw, pg, zQ, Nat.add_zero, decide_true, decide_false, YH, zk, zJ, Nat.reduceLT, Nat.lt_add_one, d38, hG, Rp.cells, hrej, c1, c2]
      exact hQ _ ⟨rfl, Ext.new⟩
  · have hno : ¬ Xi r := fun h => c1 h.2.1.1
    rw [decide_eq_false hno] at hQ
    simp (maxSteps := 4000000) (maxDischargeDepth := 8) only [zq, zg, zD, zO, zI, za, zf, zl, zo, Zm, Zv, zt, ze, zr, zj, zK, zR, zV, zF, z9, ZA, zp, Zc, zX, zu, zi, zm, zd, zb, zc, z0, zh, List.getElem?_cons_zero, z1, zn, zy, zG, Cells.get, getN, Nat.zero_add, zx, if_true, if_false, z3, List.nil_append, pp, pv, pw, pg, zQ, Nat.add_zero, decide_false, YH, zk, zJ, Nat.reduceLT, Nat.lt_add_one, d38, hG, Rp.cells, hrej, c1]
    exact hQ _ ⟨rfl, Ext.new⟩
 | true =>
  by_cases a1 : r.trap = 0
  · by_cases a2 : r.v = 0
    · by_cases a3 : r.gas = 0
      · have hnr : ¬ (r.rej = true ∧ (r.trap ≠ 0 ∨ r.v ≠ 0 ∨ r.gas ≠ 0)) := fun h => by rcases h.2 with h | h | h <;> contradiction
        by_cases c1 : 0 ≤ r.c
        · skip
          by_cases c2 : r.c ≤ 63
          · skip
            by_cases c3 : 1 ≤ r.n
            · skip
              by_cases c4 : r.n ≤ 1099511627776
              · skip
                have hyes : Xi r := ⟨hnr, ⟨c1, c2, c3, c4⟩, by omega, by omega, by omega, by omega⟩
                rw [decide_eq_true hyes] at hQ
                simp (maxSteps := 4000000) (maxDischargeDepth := 8) only [zq, zg, zD, zO, zI, za, zf, zl, zo, Zm, Za, zY, zt, ze, zr, zj, zK, zR, zV, zF, z9, ZA, zp, Zc, zX, zu, zi, zm, zd, zb, zc, z0, zh, List.getElem?_cons_zero, z1, zn, zy, zG, Cells.get, getN, Nat.zero_add, zx, if_true, if_false, Bool.not_true, z3, pp, pv, pw, pg, Nat.add_zero, decide_true, Int.reduceLE, zk, zJ, Nat.reduceLT, Nat.lt_add_one, d38, hG, Rp.cells, hrej, a1, a2, a3, c1, c2, c3, c4]
                exact hQ _ ⟨rfl, Ext.new⟩
              · have hno : ¬ Xi r := fun h => c4 h.2.1.2.2.2
                rw [decide_eq_false hno] at hQ
                simp (maxSteps := 4000000) (maxDischargeDepth := 8) only [zq, zg, zD, zO, zI, za, zf, zl, zo, Zm, Za, Zv, zY, zt, ze, zr, zj, zK, zR, zV, zF, z9, ZA, zp, Zc, zX, zu, zi, zm, zd, zb, zc, z0, zh, List.getElem?_cons_zero, z1, zn, zy, zG, Cells.get, getN, Nat.zero_add, zx, if_true, if_false, Bool.not_true, z3, List.nil_append, pp, pv, pw, pg, zQ, Nat.add_zero, decide_true, decide_false, zk, zJ, Nat.reduceLT, Nat.lt_add_one, d38, hG, Rp.cells, hrej, a1, a2, a3, c1, c2, c3, c4]
                exact hQ _ ⟨rfl, Ext.new⟩
            · have hno : ¬ Xi r := fun h => c3 h.2.1.2.2.1
              rw [decide_eq_false hno] at hQ
              simp (maxSteps := 4000000) (maxDischargeDepth := 8) only [zq, zg, zD, zO, zI, za, zf, zl, zo, Zm, Za, Zv, zY, zt, ze, zr, zj, zK, zR, zV, zF, z9, ZA, zp, Zc, zX, zu, zi, zm, zd, zb, zc, z0, zh, List.getElem?_cons_zero, z1, zn, zy, zG, Cells.get, getN, Nat.zero_add, zx, if_true, if_false, Bool.not_true, z3, List.nil_append, pp, pv, pw, pg, zQ, Nat.add_zero, decide_true, decide_false, zk, zJ, Nat.reduceLT, Nat.lt_add_one, d38, hG, Rp.cells, hrej, a1, a2, a3, c1, c2, c3]
              exact hQ _ ⟨rfl, Ext.new⟩
          · have hno : ¬ Xi r := fun h => c2 h.2.1.2.1
            rw [decide_eq_false hno] at hQ
            simp (maxSteps := 4000000) (maxDischargeDepth := 8) only [zq, zg, zD, zO, zI, za, zf, zl, zo, Zm, Za, Zv, zY, zt, ze, zr, zj, zK, zR, zV, zF, z9, ZA, zp, Zc, zX, zu, zi, zm, zd, zb, zc, z0, zh, List.getElem?_cons_zero, z1, zn, zy, zG, Cells.get, getN, Nat.zero_add, zx, if_true, if_false, Bool.not_true, z3, List.nil_append, pp, pv, pw, pg, zQ, Nat.add_zero, decide_true, decide_false, zk, zJ, Nat.reduceLT, Nat.lt_add_one, d38, hG, Rp.cells, hrej, a1, a2, a3, c1, c2]
            exact hQ _ ⟨rfl, Ext.new⟩
        · have hno : ¬ Xi r := fun h => c1 h.2.1.1
          rw [decide_eq_false hno] at hQ
          simp (maxSteps := 4000000) (maxDischargeDepth := 8) only [zq, zg, zD, zO, zI, za, zf, zl, zo, Zm, Za, Zv, zY, zt, ze, zr, zj, zK, zR, zV, zF, z9, ZA, zp, Zc, zX, zu, zi, zm, zd, zb, zc, z0, zh, List.getElem?_cons_zero, z1, zn, zy, zG, Cells.get, getN, Nat.zero_add, zx, if_true, if_false, Bool.not_true, z3, List.nil_append, pp, pv, pw, pg, zQ, Nat.add_zero, decide_true, decide_false, zk, zJ, Nat.reduceLT, Nat.lt_add_one, d38, hG, Rp.cells, hrej, a1, a2, a3, c1]
          exact hQ _ ⟨rfl, Ext.new⟩
      · have hno : ¬ Xi r := fun h => h.1 ⟨hrej, .inr (.inr a3)⟩
        rw [decide_eq_false hno] at hQ
        simp (maxSteps := 4000000) (maxDischargeDepth := 8) only [zq, zg, zD, zI, za, Zf, zf, zl, zo, Zm, Za, zY, zN, ze, zr, zj, zK, zR, zV, zF, z9, ZA, zp, Zc, zX, zu, zi, zm, zd, zb, zc, z0, zh, List.getElem?_cons_zero, z1, zn, zy, zG, Cells.get, getN, Nat.zero_add, zx, if_true, if_false, Bool.not_true, Bool.not_false, z3, pp, pv, pw, pg, decide_true, decide_false, zk, zJ, Nat.reduceLT, Nat.lt_add_one, d38, hG, Rp.cells, hrej, a1, a2, a3]
        exact hQ _ ⟨rfl, Ext.new⟩
    · have hno : ¬ Xi r := fun h => h.1 ⟨hrej, .inr (.inl a2)⟩
      rw [decide_eq_false hno] at hQ
      simp (maxSteps := 4000000) (maxDischargeDepth := 8) only [zq, zg, zD, zI, za, Zf, zf, zl, zo, Zm, Za, Yg, zY, zN, ze, zr, zj, zK, zR, zV, zF, z9, ZA, zp, Zc, zX, zu, zi, zm, zd, zb, zc, z0, zh, List.getElem?_cons_zero, z1, zn, zy, zG, Cells.get, getN, Nat.zero_add, zx, if_true, if_false, Bool.not_true, Bool.not_false, z3, List.nil_append, pp, pv, pw, pg, zQ, decide_true, decide_false, zk, zJ, Nat.reduceLT, Nat.lt_add_one, d38, hG, Rp.cells, hrej, a1, a2]
      exact hQ _ ⟨rfl, Ext.new⟩
  · have hno : ¬ Xi r := fun h => h.1 ⟨hrej, .inl a1⟩
    rw [decide_eq_false hno] at hQ
    simp (maxSteps := 4000000) (maxDischargeDepth := 8) only [zq, zg, zD, zI, za, Zf, zf, zl, zo, Zm, Za, Yg, zN, ze, zr, zj, zK, zR, zV, zF, z9, ZA, zp, Zc, zX, zu, zi, zm, zd, zb, zc, z0, zh, List.getElem?_cons_zero, z1, zn, zy, zG, Cells.get, getN, Nat.zero_add, zx, if_true, if_false, Bool.not_false, z3, List.nil_append, pp, pv, pw, pg, zQ, decide_false, zk, zJ, Nat.reduceLT, Nat.lt_add_one, d38, hG, Rp.cells, hrej, a1]
    exact hQ _ ⟨rfl, Ext.new⟩
end
section
variable {E : Env} (hR : Cp E) {s : DS} {r : Nat} {bv : Value} {bs : List Int} {bad : Bool} {d : Nat}
include hR
theorem M7 (hG : s.Good) (c n : Int) : W (dcall E (d + 2) (.func (.func 31) #[] #[]) [.int .i64 c, .int .i64 n] s) fun x => x.1 = .bool (decide (Who c n)) ∧ Ext [] s x.2 := by
 refine Zh fun Q hQ => ?_
 rw [zP hR.imay hR.fmay rfl]
 simp (maxSteps := 4000000) only [zq, zg, za, zf, zl, zo, ze, ZC, zj, zK, Zl, zB, zi, zm, zA, zd, zb, zc, Nat.reduceEqDiff, z0, zh, List.getElem?_cons_zero, List.getElem?_cons_succ, z1, z4, z5, Nat.zero_add, Nat.reduceAdd, ZK, List.length_cons, List.length_nil, Bool.and_self, Bool.and_eq_true, Nat.beq_eq, Nat.ble_eq, Nat.reduceLeDiff, and_self, if_true, reduceCtorEq, zM, List.take_zero, List.take_succ_cons, List.drop_succ_cons, List.drop_zero, List.nil_append, List.cons_append, pp, pv, d31]
 refine W.mono (Dq hR.fMay hR.iMay hG (d := d) ⟨c, n, false, 0, 0, 0⟩) ?_
 rintro ⟨v, s1⟩ ⟨h1, X1⟩
 simp only at h1 X1
 subst h1
 have e : decide (Xi ⟨c, n, false, 0, 0, 0⟩) = decide (Who c n) := by
  refine decide_eq_decide.2 (Iff.intro (fun h => h.2.1) fun h => ?_)
  unfold Xi
  exact ⟨fun h => by simp at h, h, by simp⟩
 rw [e]
 simp (maxSteps := 4000000) only [zI, za, zf, zl, zo, ze, zj, zK, zu, zi, zd, zb, z1, zn, zy]
 exact hQ _ ⟨rfl, X1⟩
theorem Pn (h : YK s r bv bs bad) (hG : s.Good) (hB : IsB bs) (hl : bs.length ≤ 1048576) :
 W (dcall E (d + 5) (.func (.func 32) #[] #[]) [.pointer (some ⟨r, 0, none⟩)] s) fun p => p.1 = .tuple ⟨[.agg ⟨(GI (Xw (bs, bad)).1).cells⟩, .bool (decide ((Xw (bs, bad)).2.2 = false ∧ Xi (GI (Xw (bs, bad)).1)))]⟩ ∧ ∃ bv', YK p.2 r bv' (Xw (bs, bad)).2.1 (Xw (bs, bad)).2.2 ∧ Ext [r] s p.2 ∧ ∀ k, k ∈ blk bv' → k ∈ blk bv := by
 have hrl := DS.get_lt' h.gr
 refine Zh fun Q hQ => ?_
 rw [zP hR.iRR hR.fRR rfl]
 obtain ⟨S0, hS0⟩ : ∃ S0 : DS, S0 = ((s.new (.cells (.list [.int .i64 0, .int .i64 0, .bool false, .int .i64 0, .int .i64 0, .int .i64 0]) false)).new (.cells (.list [.int .i64 0, .int .i64 0, .bool false, .int .i64 0, .int .i64 0, .int .i64 0]) false)).upd (s.next + 1) (.cells (.list [.int .i64 0, .int .i64 0, .bool false, .int .i64 0, .int .i64 0, .int .i64 0]) false) := ⟨_, rfl⟩
 have X0 : Ext [] s S0 := by
  rw [hS0]
  have a1 : Ext [] s ((s.new (.cells (.list [.int .i64 0, .int .i64 0, .bool false, .int .i64 0, .int .i64 0, .int .i64 0]) false)).new (.cells (.list [.int .i64 0, .int .i64 0, .bool false, .int .i64 0, .int .i64 0, .int .i64 0]) false)) := Ext.new.trans' Ext.new
  exact a1.trans (Ext.upd (F := [s.next + 1]) (.inl (by simp))) (by simp)
 have G0 := X0.good hG
 have gA0 : S0.get s.next = some (.cells (.list [.int .i64 0, .int .i64 0, .bool false, .int .i64 0, .int .i64 0, .int .i64 0]) false) := by rw [hS0]; simp (maxSteps := 4000000) (maxDischargeDepth := 8) only [z0, DS.upd_get_ne, zQ, zk, zw, zC, zJ, Nat.lt_add_one, hG]
 have gB0 : S0.get (s.next + 1) = some (.cells (.list [.int .i64 0, .int .i64 0, .bool false, .int .i64 0, .int .i64 0, .int .i64 0]) false) := by rw [hS0]; simp (maxSteps := 4000000) (maxDischargeDepth := 8) only [DS.upd_get_self, Option.map_some, zQ, zk, zC, hG]
 have w0 : ∀ k, S0.wr (s.next + k) = true := fun k => X0.wrs (hG _ (Nat.le_add_right _ _)).2
 have n0 : S0.next = s.next + 2 := by rw [hS0]; simp (maxSteps := 4000000) (maxDischargeDepth := 8) only [Nat.reduceAdd, DS.upd_next, zQ, Nat.add_assoc]
 obtain ⟨x0, hx0⟩ : ∃ x0 : RS, x0 = (bs, bad) := ⟨_, rfl⟩
 have I0 : YK S0 r bv x0.1 x0.2 := by rw [hx0]; exact h.keep X0 (by simp) (by simp)
 have B0 : IsB x0.1 := by rw [hx0]; exact hB
 have L0 : x0.1.length ≤ 1048576 := by rw [hx0]; exact hl
 have b0 : ∀ k, k ∈ blk bv → k ∈ blk bv := fun _ h => h
 have Y0 : Ext [r] s S0 := X0.weaken (by simp)
 have hx0' : x0 = (x0.1, x0.2) := rfl
 simp (maxSteps := 4000000) (maxDischargeDepth := 8) only [zq, zg, za, zf, zl, zo, ze, zU, ZC, zj, zK, Zl, Zx, zW, zB, zi, zm, zA, zd, zE, zb, zc, z0, zh, List.getElem?_cons_zero, z1, z4, z5, Nat.zero_add, Nat.reduceAdd, Zd, zx, List.length_cons, List.length_nil, zL, zH, Bool.and_self, Bool.and_true, Nat.beq_eq, Nat.ble_eq, Nat.le_refl, if_true, DS.wrC, Cells.size, Cells.fillFrom, Cells.set, Zb, zM, pp, pv, zQ, wrN, zk, zC, Zi, zJ, ZF, Nat.lt_add_one, Nat.succ_pos, d32, hG, ← hS0]
 refine W.mono (GW hR (d := d) (bs := x0.1) (bad := x0.2) I0 G0 B0 L0) ?_
 rintro ⟨v1, T1⟩ ⟨bv1, hv1, IT1, XT1, bT1⟩
 simp only at hv1 IT1 XT1 bT1
 have hv1 : v1 = _ := hv1
 subst hv1
 obtain ⟨y0, hy0⟩ : ∃ y, y = (rdN 1 255 x0).1 := ⟨_, rfl⟩
 obtain ⟨x1, hx1⟩ : ∃ x, x = (rdN 1 255 x0).2 := ⟨_, rfl⟩
 have hvy1 : Value.int .i64 (rdN 1 255 x0).1 = Value.int .i64 y0 := by rw [hy0]
 rw [show ((x0.1, x0.2) : RS) = x0 from rfl] at IT1
 rw [show ((x0.1, x0.2) : RS) = x0 from rfl]
 rw [← hy0]
 rw [← hx1] at IT1
 obtain ⟨k1, hk1⟩ := (Zo 1 255).suf x0
 rw [← hx1] at hk1
 have gT1 := XT1.keep gB0 (by simp; omega)
 have wT1 : ∀ k, T1.wr (s.next + k) = true := fun k => XT1.wrs (w0 k)
 simp (maxSteps := 4000000) (maxDischargeDepth := 8) only [zq, zg, za, zf, zl, zo, ze, zr, zU, zj, zK, zF, Zx, zB, zp, zi, zA, zd, zE, zb, zc, z0, zh, List.getElem?_cons_zero, z1, z4, z5, Nat.zero_add, Nat.reduceAdd, Zd, ZK, List.length_cons, List.length_nil, zL, zH, Bool.and_self, Bool.and_true, Nat.beq_eq, Nat.ble_eq, Nat.reduceLeDiff, if_true, DS.wrC, Cells.size, Cells.fillFrom, Cells.set, Zb, Nat.add_zero, zJ, Nat.reduceLT, Nat.lt_add_one, Nat.succ_pos, gT1, wT1]
 obtain ⟨S1, hS1⟩ : ∃ S : DS, S = T1.upd (s.next + 1) (.cells (.list [.int .i64 y0, .int .i64 0, .bool false, .int .i64 0, .int .i64 0, .int .i64 0]) false) := ⟨_, rfl⟩
 rw [← hS1]
 have XU1 : Ext [s.next + 1] T1 S1 := by rw [hS1]; exact Ext.upd (.inl (by simp))
 have gB1 : S1.get (s.next + 1) = some (.cells (.list [.int .i64 y0, .int .i64 0, .bool false, .int .i64 0, .int .i64 0, .int .i64 0]) false) := by rw [hS1, DS.upd_get_self, gT1]; rfl
 have gA1 := XU1.keep (XT1.keep gA0 (by simp; omega)) (by simp)
 have w1 : ∀ k, S1.wr (s.next + k) = true := fun k => XU1.wrs (wT1 k)
 have b1 : ∀ k, k ∈ blk bv1 → k ∈ blk bv := fun k hk => b0 k (bT1 k hk)
 have I1 : YK S1 r bv1 x1.1 x1.2 := IT1.keep XU1 (by simp; omega) (fun k hk => by have := h.sl.lt k (b1 k hk); simp; omega)
 have B1 : IsB x1.1 := by rw [hk1]; exact B0.drop k1
 have L1 : x1.1.length ≤ 1048576 := by rw [hk1]; simp; omega
 have Y1 : Ext [r] s S1 := (Y0.trans' XT1).trans XU1 (by simp)
 have G1 := Y1.good hG
 have n1 : S1.next = T1.next := by rw [hS1, DS.upd_next]
 clear hS1
 refine W.mono (Gg hR (d := d + 1) (bs := x1.1) (bad := x1.2) I1 G1 B1 L1) ?_
 rintro ⟨v2, T2⟩ ⟨bv2, hv2, IT2, XT2, bT2⟩
 simp only at hv2 IT2 XT2 bT2
 have hv2 : v2 = _ := hv2
 subst hv2
 obtain ⟨y1, hy1⟩ : ∃ y, y = (rdN 8 0 x1).1 := ⟨_, rfl⟩
 obtain ⟨x2, hx2⟩ : ∃ x, x = (rdN 8 0 x1).2 := ⟨_, rfl⟩
 have hvy2 : Value.int .i64 (rdN 8 0 x1).1 = Value.int .i64 y1 := by rw [hy1]
 rw [show ((x1.1, x1.2) : RS) = x1 from rfl] at IT2
 rw [show ((x1.1, x1.2) : RS) = x1 from rfl]
 rw [← hy1]
 rw [← hx2] at IT2
 obtain ⟨k2, hk2⟩ := (Zo 8 0).suf x1
 rw [← hx2] at hk2
 have gT2 := XT2.keep gB1 (by simp; omega)
 have wT2 : ∀ k, T2.wr (s.next + k) = true := fun k => XT2.wrs (w1 k)
 simp (maxSteps := 4000000) (maxDischargeDepth := 8) only [zq, zg, za, zf, zl, zo, ze, zr, zU, zj, zK, zF, Zx, zB, zp, zi, zA, zd, zE, zb, zc, z0, zh, List.getElem?_cons_zero, z1, z4, z5, Nat.zero_add, Nat.reduceAdd, Zd, ZK, List.length_cons, List.length_nil, zL, zH, Bool.and_self, Bool.and_true, Nat.beq_eq, Nat.ble_eq, Nat.reduceLeDiff, if_true, DS.wrC, Cells.size, Cells.fillFrom, Cells.set, Zb, zJ, Nat.reduceLT, Nat.lt_add_one, Nat.succ_pos, gT2, wT2]
 obtain ⟨S2, hS2⟩ : ∃ S : DS, S = T2.upd (s.next + 1) (.cells (.list [.int .i64 y0, .int .i64 y1, .bool false, .int .i64 0, .int .i64 0, .int .i64 0]) false) := ⟨_, rfl⟩
 rw [← hS2]
 have XU2 : Ext [s.next + 1] T2 S2 := by rw [hS2]; exact Ext.upd (.inl (by simp))
 have gB2 : S2.get (s.next + 1) = some (.cells (.list [.int .i64 y0, .int .i64 y1, .bool false, .int .i64 0, .int .i64 0, .int .i64 0]) false) := by rw [hS2, DS.upd_get_self, gT2]; rfl
 have gA2 := XU2.keep (XT2.keep gA1 (by simp; omega)) (by simp)
 have w2 : ∀ k, S2.wr (s.next + k) = true := fun k => XU2.wrs (wT2 k)
 have b2 : ∀ k, k ∈ blk bv2 → k ∈ blk bv := fun k hk => b1 k (bT2 k hk)
 have I2 : YK S2 r bv2 x2.1 x2.2 := IT2.keep XU2 (by simp; omega) (fun k hk => by have := h.sl.lt k (b2 k hk); simp; omega)
 have B2 : IsB x2.1 := by rw [hk2]; exact B1.drop k2
 have L2 : x2.1.length ≤ 1048576 := by rw [hk2]; simp; omega
 have Y2 : Ext [r] s S2 := (Y1.trans' XT2).trans XU2 (by simp)
 have G2 := Y2.good hG
 have n2 : S2.next = T2.next := by rw [hS2, DS.upd_next]
 clear hS2
 refine W.mono (CG hR (d := d) (bs := x2.1) (bad := x2.2) I2 G2 B2 L2) ?_
 rintro ⟨v3, T3⟩ ⟨bv3, hv3, IT3, XT3, bT3⟩
 simp only at hv3 IT3 XT3 bT3
 have hv3 : v3 = _ := hv3
 subst hv3
 obtain ⟨y2, hy2⟩ : ∃ y, y = (rdF x2).1 := ⟨_, rfl⟩
 obtain ⟨x3, hx3⟩ : ∃ x, x = (rdF x2).2 := ⟨_, rfl⟩
 have hvy3 : Value.bool (rdF x2).1 = Value.bool y2 := by rw [hy2]
 rw [show ((x2.1, x2.2) : RS) = x2 from rfl] at IT3
 rw [show ((x2.1, x2.2) : RS) = x2 from rfl]
 rw [← hy2]
 rw [← hx3] at IT3
 obtain ⟨k3, hk3⟩ := Qs.suf x2
 rw [← hx3] at hk3
 have gT3 := XT3.keep gB2 (by simp; omega)
 have wT3 : ∀ k, T3.wr (s.next + k) = true := fun k => XT3.wrs (w2 k)
 simp (maxSteps := 4000000) (maxDischargeDepth := 8) only [zq, zg, za, zf, zl, zo, ze, zr, zU, zj, zK, zF, Zx, zB, zp, zi, zA, zd, zE, zb, zc, z0, zh, List.getElem?_cons_zero, z1, z4, z5, Nat.zero_add, Nat.reduceAdd, Zd, ZO, List.length_cons, List.length_nil, zL, zH, Bool.and_self, Bool.and_true, Nat.beq_eq, Nat.ble_eq, Nat.reduceLeDiff, if_true, DS.wrC, Cells.size, Cells.fillFrom, Cells.set, Zb, zJ, Nat.reduceLT, Nat.lt_add_one, Nat.succ_pos, gT3, wT3]
 obtain ⟨S3, hS3⟩ : ∃ S : DS, S = T3.upd (s.next + 1) (.cells (.list [.int .i64 y0, .int .i64 y1, .bool y2, .int .i64 0, .int .i64 0, .int .i64 0]) false) := ⟨_, rfl⟩
 rw [← hS3]
 have XU3 : Ext [s.next + 1] T3 S3 := by rw [hS3]; exact Ext.upd (.inl (by simp))
 have gB3 : S3.get (s.next + 1) = some (.cells (.list [.int .i64 y0, .int .i64 y1, .bool y2, .int .i64 0, .int .i64 0, .int .i64 0]) false) := by rw [hS3, DS.upd_get_self, gT3]; rfl
 have gA3 := XU3.keep (XT3.keep gA2 (by simp; omega)) (by simp)
 have w3 : ∀ k, S3.wr (s.next + k) = true := fun k => XU3.wrs (wT3 k)
 have b3 : ∀ k, k ∈ blk bv3 → k ∈ blk bv := fun k hk => b2 k (bT3 k hk)
 have I3 : YK S3 r bv3 x3.1 x3.2 := IT3.keep XU3 (by simp; omega) (fun k hk => by have := h.sl.lt k (b3 k hk); simp; omega)
 have B3 : IsB x3.1 := by rw [hk3]; exact B2.drop k3
 have L3 : x3.1.length ≤ 1048576 := by rw [hk3]; simp; omega
 have Y3 : Ext [r] s S3 := (Y2.trans' XT3).trans XU3 (by simp)
 have G3 := Y3.good hG
 have n3 : S3.next = T3.next := by rw [hS3, DS.upd_next]
 clear hS3
 refine W.mono (GW hR (d := d) (bs := x3.1) (bad := x3.2) I3 G3 B3 L3) ?_
 rintro ⟨v4, T4⟩ ⟨bv4, hv4, IT4, XT4, bT4⟩
 simp only at hv4 IT4 XT4 bT4
 have hv4 : v4 = _ := hv4
 subst hv4
 obtain ⟨y3, hy3⟩ : ∃ y, y = (rdN 1 255 x3).1 := ⟨_, rfl⟩
 obtain ⟨x4, hx4⟩ : ∃ x, x = (rdN 1 255 x3).2 := ⟨_, rfl⟩
 have hvy4 : Value.int .i64 (rdN 1 255 x3).1 = Value.int .i64 y3 := by rw [hy3]
 rw [show ((x3.1, x3.2) : RS) = x3 from rfl] at IT4
 rw [show ((x3.1, x3.2) : RS) = x3 from rfl]
 rw [← hy3]
 rw [← hx4] at IT4
 obtain ⟨k4, hk4⟩ := (Zo 1 255).suf x3
 rw [← hx4] at hk4
 have gT4 := XT4.keep gB3 (by simp; omega)
 have wT4 : ∀ k, T4.wr (s.next + k) = true := fun k => XT4.wrs (w3 k)
 simp (maxSteps := 4000000) (maxDischargeDepth := 8) only [zq, zg, za, zf, zl, zo, ze, zr, zU, zj, zK, zF, Zx, zB, zp, zi, zA, zd, zE, zb, zc, z0, zh, List.getElem?_cons_zero, z1, z4, z5, Nat.zero_add, Nat.reduceAdd, Zd, ZK, List.length_cons, List.length_nil, zL, zH, Bool.and_self, Bool.and_true, Nat.beq_eq, Nat.ble_eq, Nat.reduceLeDiff, if_true, DS.wrC, Cells.size, Cells.fillFrom, Cells.set, Zb, zJ, Nat.reduceLT, Nat.lt_add_one, Nat.succ_pos, gT4, wT4]
 obtain ⟨S4, hS4⟩ : ∃ S : DS, S = T4.upd (s.next + 1) (.cells (.list [.int .i64 y0, .int .i64 y1, .bool y2, .int .i64 y3, .int .i64 0, .int .i64 0]) false) := ⟨_, rfl⟩
 rw [← hS4]
 have XU4 : Ext [s.next + 1] T4 S4 := by rw [hS4]; exact Ext.upd (.inl (by simp))
 have gB4 : S4.get (s.next + 1) = some (.cells (.list [.int .i64 y0, .int .i64 y1, .bool y2, .int .i64 y3, .int .i64 0, .int .i64 0]) false) := by rw [hS4, DS.upd_get_self, gT4]; rfl
 have gA4 := XU4.keep (XT4.keep gA3 (by simp; omega)) (by simp)
 have w4 : ∀ k, S4.wr (s.next + k) = true := fun k => XU4.wrs (wT4 k)
 have b4 : ∀ k, k ∈ blk bv4 → k ∈ blk bv := fun k hk => b3 k (bT4 k hk)
 have I4 : YK S4 r bv4 x4.1 x4.2 := IT4.keep XU4 (by simp; omega) (fun k hk => by have := h.sl.lt k (b4 k hk); simp; omega)
 have B4 : IsB x4.1 := by rw [hk4]; exact B3.drop k4
 have L4 : x4.1.length ≤ 1048576 := by rw [hk4]; simp; omega
 have Y4 : Ext [r] s S4 := (Y3.trans' XT4).trans XU4 (by simp)
 have G4 := Y4.good hG
 have n4 : S4.next = T4.next := by rw [hS4, DS.upd_next]
 clear hS4
 refine W.mono (Gg hR (d := d + 1) (bs := x4.1) (bad := x4.2) I4 G4 B4 L4) ?_
 rintro ⟨v5, T5⟩ ⟨bv5, hv5, IT5, XT5, bT5⟩
 simp only at hv5 IT5 XT5 bT5
 have hv5 : v5 = _ := hv5
 subst hv5
 obtain ⟨y4, hy4⟩ : ∃ y, y = (rdN 8 0 x4).1 := ⟨_, rfl⟩
 obtain ⟨x5, hx5⟩ : ∃ x, x = (rdN 8 0 x4).2 := ⟨_, rfl⟩
 have hvy5 : Value.int .i64 (rdN 8 0 x4).1 = Value.int .i64 y4 := by rw [hy4]
 rw [show ((x4.1, x4.2) : RS) = x4 from rfl] at IT5
 rw [show ((x4.1, x4.2) : RS) = x4 from rfl]
 rw [← hy4]
 rw [← hx5] at IT5
 obtain ⟨k5, hk5⟩ := (Zo 8 0).suf x4
 rw [← hx5] at hk5
 have gT5 := XT5.keep gB4 (by simp; omega)
 have wT5 : ∀ k, T5.wr (s.next + k) = true := fun k => XT5.wrs (w4 k)
 simp (maxSteps := 4000000) (maxDischargeDepth := 8) only [zq, zg, za, zf, zl, zo, ze, zr, zU, zj, zK, zF, Zx, zB, zp, zi, zA, zd, zE, zb, zc, z0, zh, List.getElem?_cons_zero, z1, z4, z5, Nat.zero_add, Nat.reduceAdd, Zd, ZK, List.length_cons, List.length_nil, zL, zH, Bool.and_self, Bool.and_true, Nat.beq_eq, Nat.ble_eq, Nat.reduceLeDiff, if_true, DS.wrC, Cells.size, Cells.fillFrom, Cells.set, Zb, zJ, Nat.reduceLT, Nat.lt_add_one, Nat.succ_pos, gT5, wT5]
 obtain ⟨S5, hS5⟩ : ∃ S : DS, S = T5.upd (s.next + 1) (.cells (.list [.int .i64 y0, .int .i64 y1, .bool y2, .int .i64 y3, .int .i64 y4, .int .i64 0]) false) := ⟨_, rfl⟩
 rw [← hS5]
 have XU5 : Ext [s.next + 1] T5 S5 := by rw [hS5]; exact Ext.upd (.inl (by simp))
 have gB5 : S5.get (s.next + 1) = some (.cells (.list [.int .i64 y0, .int .i64 y1, .bool y2, .int .i64 y3, .int .i64 y4, .int .i64 0]) false) := by rw [hS5, DS.upd_get_self, gT5]; rfl
 have gA5 := XU5.keep (XT5.keep gA4 (by simp; omega)) (by simp)
 have w5 : ∀ k, S5.wr (s.next + k) = true := fun k => XU5.wrs (wT5 k)
 have b5 : ∀ k, k ∈ blk bv5 → k ∈ blk bv := fun k hk => b4 k (bT5 k hk)
 have I5 : YK S5 r bv5 x5.1 x5.2 := IT5.keep XU5 (by simp; omega) (fun k hk => by have := h.sl.lt k (b5 k hk); simp; omega)
 have B5 : IsB x5.1 := by rw [hk5]; exact B4.drop k5
 have L5 : x5.1.length ≤ 1048576 := by rw [hk5]; simp; omega
 have Y5 : Ext [r] s S5 := (Y4.trans' XT5).trans XU5 (by simp)
 have G5 := Y5.good hG
 have n5 : S5.next = T5.next := by rw [hS5, DS.upd_next]
 clear hS5
 refine W.mono (Gg hR (d := d + 1) (bs := x5.1) (bad := x5.2) I5 G5 B5 L5) ?_
 rintro ⟨v6, T6⟩ ⟨bv6, hv6, IT6, XT6, bT6⟩
 simp only at hv6 IT6 XT6 bT6
 have hv6 : v6 = _ := hv6
 subst hv6
 obtain ⟨y5, hy5⟩ : ∃ y, y = (rdN 8 0 x5).1 := ⟨_, rfl⟩
 obtain ⟨x6, hx6⟩ : ∃ x, x = (rdN 8 0 x5).2 := ⟨_, rfl⟩
 have hvy6 : Value.int .i64 (rdN 8 0 x5).1 = Value.int .i64 y5 := by rw [hy5]
 rw [show ((x5.1, x5.2) : RS) = x5 from rfl] at IT6
 rw [show ((x5.1, x5.2) : RS) = x5 from rfl]
 rw [← hy5]
 rw [← hx6] at IT6
 obtain ⟨k6, hk6⟩ := (Zo 8 0).suf x5
 rw [← hx6] at hk6
 have gT6 := XT6.keep gB5 (by simp; omega)
 have wT6 : ∀ k, T6.wr (s.next + k) = true := fun k => XT6.wrs (w5 k)
 simp (maxSteps := 4000000) (maxDischargeDepth := 8) only [zq, zg, za, zf, zl, zo, Yp, ze, Zn, zr, zU, zj, zK, z8, zF, z9, Zx, zp, zi, zd, zE, zb, zc, z0, zh, List.getElem?_cons_zero, z1, zG, Cells.get, getN, Nat.zero_add, Nat.reduceAdd, Zd, ZK, List.length_cons, List.length_nil, zL, zH, Bool.and_self, Bool.and_true, Nat.beq_eq, Nat.ble_eq, Nat.le_refl, if_true, DS.wrC, Cells.size, Cells.fillFrom, Cells.set, Zb, List.nil_append, List.cons_append, DS.upd_get_self, DS.upd_next, Option.map_some, Yh, ldA, foot, DS.read, Cells.take, zJ, Nat.reduceLT, Nat.lt_add_one, Nat.succ_pos, gT6, wT6]
 obtain ⟨S6, hS6⟩ : ∃ S : DS, S = T6.upd (s.next + 1) (.cells (.list [.int .i64 y0, .int .i64 y1, .bool y2, .int .i64 y3, .int .i64 y4, .int .i64 y5]) false) := ⟨_, rfl⟩
 rw [← hS6]
 have XU6 : Ext [s.next + 1] T6 S6 := by rw [hS6]; exact Ext.upd (.inl (by simp))
 have gB6 : S6.get (s.next + 1) = some (.cells (.list [.int .i64 y0, .int .i64 y1, .bool y2, .int .i64 y3, .int .i64 y4, .int .i64 y5]) false) := by rw [hS6, DS.upd_get_self, gT6]; rfl
 have gA6 := XU6.keep (XT6.keep gA5 (by simp; omega)) (by simp)
 have w6 : ∀ k, S6.wr (s.next + k) = true := fun k => XU6.wrs (wT6 k)
 have b6 : ∀ k, k ∈ blk bv6 → k ∈ blk bv := fun k hk => b5 k (bT6 k hk)
 have I6 : YK S6 r bv6 x6.1 x6.2 := IT6.keep XU6 (by simp; omega) (fun k hk => by have := h.sl.lt k (b6 k hk); simp; omega)
 have B6 : IsB x6.1 := by rw [hk6]; exact B5.drop k6
 have L6 : x6.1.length ≤ 1048576 := by rw [hk6]; simp; omega
 have Y6 : Ext [r] s S6 := (Y5.trans' XT6).trans XU6 (by simp)
 have G6 := Y6.good hG
 have n6 : S6.next = T6.next := by rw [hS6, DS.upd_next]
 clear hS6
 have hTd : Xw (bs, bad) = ((((y0, y1), y2), (y3, (y4, y5))), x6) := by
  subst hy0 hy1 hy2 hy3 hy4 hy5 hx6 hx5 hx4 hx3 hx2 hx1 hx0
  rfl
 rw [hTd] at hQ
 have gr6 := I6.gr
 have hb1 : Nat.ble (T6.next + 1) s.next = false := by rw [ZW]; have := Y6.le; omega
 have lr : ¬ r = s.next := by omega
 have lr1 : ¬ r = s.next + 1 := by omega
 have Xend : ∀ (S : DS) (o : DObj), Ext [r] s S → Ext [r] s (S.upd s.next o) := fun S o Y => Y.trans (Ext.upd (F := [s.next]) (.inl (by simp))) (by simp)
 have hout : ∀ (S : DS) (o : DObj), YK S r bv6 x6.1 x6.2 → YK (S.upd s.next o) r bv6 x6.1 x6.2 := fun S o I => I.keep (Ext.upd (F := [s.next]) (.inl (by simp))) (by simp; omega) (fun k hk => by have := h.sl.lt k (b6 k hk); simp; omega)
 have wA6 : S6.wr s.next = true := w6 0
 cases hb : x6.2 with
 | true =>
  rw [hb] at gr6
  simp (maxSteps := 4000000) (maxDischargeDepth := 8) only [zI, za, zf, zl, Yp, Zm, Zv, Zn, zr, zU, zj, zK, zR, YU, Zx, zp, zZ, zu, zi, zm, zd, zE, zb, zc, z0, z1, zn, zy, Cells.get, getN, Nat.zero_add, Nat.reduceAdd, Zd, zx, List.length_cons, List.length_nil, zL, zH, Bool.and_self, Bool.and_true, Nat.beq_eq, Nat.ble_eq, Nat.le_refl, if_true, if_false, Bool.not_true, z3, DS.wrC, Cells.size, Cells.fillFrom, Cells.set, Zb, List.nil_append, List.cons_append, DS.upd_get_self, DS.upd_next, Option.map_some, foot, DS.read, Cells.take, zJ, Nat.reduceLT, Nat.lt_add_one, gr6, gA6, gB6, wA6]
  refine hQ _ ⟨?_, bv6, hout _ _ I6, Xend _ _ Y6, b6⟩
  rw [decide_eq_false (fun h => by rw [hb] at h; cases h.1)]
  rfl
 | false =>
  rw [hb] at gr6
  simp (maxSteps := 4000000) (maxDischargeDepth := 8) only [Yp, Zm, WL, Za, Zn, zr, zj, zK, YU, zB, zp, zi, zA, zd, zb, zc, z0, z1, z4, z5, Cells.get, getN, Bool.not_false, List.nil_append, List.cons_append, Yh, ldA, foot, DS.read, Cells.take, zJ, Nat.reduceLT, Nat.lt_add_one, gr6, gA6, gB6, wA6]
  have hhid : ∀ k, hidden [⟨[s.next + 1], T6.next, T6.next⟩, ⟨[], T6.next, T6.next⟩, ⟨[], T6.next, T6.next⟩, ⟨[], T6.next, T6.next⟩, ⟨[r], T6.next, S6.next⟩, ⟨[], S6.next, S6.next⟩, ⟨[], S6.next, S6.next⟩, ⟨[s.next + 1], S6.next, S6.next⟩] [0] k = false ∨ k = s.next + 1 := fun k => by
   by_cases h : k = s.next + 1
   · exact .inr h
   · exact .inl (by (simp only [hidden, shielded, noteAt, ZD, Bool.or_false, Bool.or_eq_false_iff, Bool.and_eq_false_iff, ZW, Yb, ZZ, true_and, and_true, true_or, or_true] <;> omega))
  refine W.masked (hR.fr _) (Dq hR.fMay hR.iMay (d := d + 3) (YL G6 fun k hk => ?_) ⟨y0, y1, y2, y3, y4, y5⟩) ?_
  · have hk : S6.next ≤ k := hk
    have := DS.get_lt' gB6
    exact ⟨by (simp only [hidden, shielded, noteAt, ZD, Bool.or_false, Bool.or_eq_false_iff, Bool.and_eq_false_iff, ZW, Yb, ZZ, true_and, and_true, true_or, or_true] <;> omega), by (simp only [hidden, shielded, noteAt, ZD, Bool.or_false, Bool.or_eq_false_iff, Bool.and_eq_false_iff, ZW, Yb, ZZ, true_and, and_true, true_or, or_true] <;> omega)⟩
  rintro v7 s7 ⟨h7, X7⟩ df
  simp only at h7 X7
  subst h7
  have X7' := Ext.unmask' X7 df
  obtain ⟨S7, hS7⟩ : ∃ S7 : DS, S7 = Ys S6 s7 := ⟨_, rfl⟩
  have n7 : s7.next = S7.next := by rw [hS7]; rfl
  rw [← hS7] at X7'
  have gA7 := X7'.keep gA6 (by simp)
  have wA7 := X7'.wrs wA6
  have Y7 := Y6.trans' (X7'.weaken (by simp))
  have I7 := I6.keep X7' (by simp) (by simp)
  simp (maxSteps := 4000000) (maxDischargeDepth := 8) only [zI, za, zf, zl, Yp, Zn, Yd, zr, zU, zj, zK, zR, Zx, zp, zZ, zu, zi, zm, zd, zE, zb, zc, z0, z1, zn, zy, Cells.get, getN, Nat.zero_add, Nat.reduceAdd, Zd, zx, List.length_cons, List.length_nil, zL, zH, Bool.and_self, Bool.and_true, Nat.beq_eq, Nat.ble_eq, Nat.le_refl, if_true, DS.wrC, Cells.size, Cells.fillFrom, Cells.set, Zb, List.nil_append, List.cons_append, DS.upd_get_self, DS.upd_next, Option.map_some, foot, DS.read, Cells.take, zJ, Nat.reduceLT, Nat.lt_add_one, ← hS7, n7, gA7, wA7]
  refine hQ _ ⟨?_, bv6, hout _ _ I7, Xend _ _ Y7, b6⟩
  rw [show decide (x6.2 = false ∧ Xi (GI ((((y0, y1), y2), (y3, (y4, y5))), x6).1)) = decide (Xi ⟨y0, y1, y2, y3, y4, y5⟩) from decide_eq_decide.2 ⟨fun h => h.2, fun h => ⟨hb, h⟩⟩]
  rfl
end
end Go.Dx.TbA
