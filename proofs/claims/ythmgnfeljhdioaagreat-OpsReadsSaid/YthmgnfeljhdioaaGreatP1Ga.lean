/- A part. -/
import Derived.Test.YthmgnfeljhdioaaGreatP1Bo
import Derived.Test.YthmgnfeljhdioaaGreatP1Dp
import Derived.Test.YthmgnfeljhdioaaGreatDxF
set_option linter.unusedVariables false
set_option linter.unusedSimpArgs false
set_option linter.unusedSectionVars false
set_option maxRecDepth 100000
set_option maxHeartbeats 4000000
namespace Go.Dx.TbA
open Go Go.Dx Go.Dx.Tab Go.Proofs.YthmgnfeljhdioaaGreat
structure QP (E : Env) : Prop where
 fTake : E.fn 105 = some d105
 iTake : E.intr 105 = none
 fLow : E.fn 71 = some d71
 iLow : E.intr 71 = none
 fCount : E.fn 70 = some d70
 iCount : E.intr 70 = none
 fMany : E.fn 69 = some d69
 iMany : E.intr 69 = none
 fInt : E.fn 41 = some d41
 iInt : E.intr 41 = none
 fByte : E.fn 40 = some d40
 iByte : E.intr 40 = none
 fFlag : E.fn 42 = some d42
 iFlag : E.intr 42 = none
 fBlob : E.fn 68 = some d68
 iBlob : E.intr 68 = none
 fMay : E.fn 11 = some d11
 iMay : E.intr 11 = none
 fRR : E.fn 18 = some d18
 iRR : E.intr 18 = none
 fr : ∀ d, zB (dcall E d)
 lf : 10000 ≤ E.lf
section
variable {E : Env} (hR : QP E) {s : DS} {r : Nat} {bv : Value} {bs : List Int} {bad : Bool} {d : Nat}
include hR
theorem KP (h : zI s r bv bs bad) (hG : s.Good) (hl : bs.length ≤ 1048576) (n : Nat) (hn : n ≤ 65536) :
 W (dcall E (d + 1) (.func (.func 105) #[] #[]) [.pointer (some ⟨r, 0, none⟩), .int .i64 (n : Int)] s) fun p => ∃ bv', SlX p.2 1 p.1 (ZP (tk n (bs, bad)).1) ∧ zI p.2 r bv' (tk n (bs, bad)).2.1 (tk n (bs, bad)).2.2 ∧ Ext [r] s p.2 ∧ (∀ k, k ∈ blk bv' → k ∈ blk bv) ∧ ∀ k, k ∈ blk p.1 → s.next ≤ k := by
 have gr := h.gr
 have wr := h.wr
 have hrl := DS.get_lt' gr
 obtain ⟨ba, bc, hbv⟩ := h.sl.len
 refine zD fun Q hQ => ?_
 rw [zn hR.iTake hR.fTake rfl]
 have e1 : ¬ (n : Int) < 0 := by omega
 have X : ∀ o, Ext [r] s (s.upd r o) := fun o => Ext.upd (.inl (by simp))
 have fail : tk n (bs, bad) = ([], (bs, true)) → Q (.slice none 0 0, s.upd r (.cells (.list [bv, .bool true]) false)) := by
  intro ht
  rw [ht] at hQ
  refine hQ _ ⟨bv, .inl ⟨rfl, rfl⟩, ⟨by rw [DS.upd_get_self, gr]; rfl, by rw [DS.upd_wr]; exact wr, h.sl.keep (X _) (fun k hk e => ?_), h.ne⟩, X _, fun k hk => hk, fun k hk => by simp [blk] at hk⟩
  have e := List.mem_singleton.1 e
  subst e
  exact h.ne hk
 cases bad with
 | true =>
  have := fail (by unfold tk; rw [if_pos (.inl rfl)])
  simp only [sA, zc, Nat.reduceEqDiff, za, zf, Cells.get, getN, Nat.reduceAdd, zh, zg, reduceCtorEq, DS.wrC, Cells.size, Cells.fillFrom, Cells.set, zt, pp, pv, pw, pg, d105, gr, wr]
  exact this
 | false =>
  by_cases c1 : bs.length < n
  · have := fail (by unfold tk; rw [if_pos (.inr c1)])
    have e2 : (bs.length : Int) < (n : Int) := by omega
    subst hbv
    simp only [sA, zc, zp, zl, Nat.reduceEqDiff, za, zf, Cells.get, getN, Nat.reduceAdd, zh, zg, reduceCtorEq, DS.wrC, Cells.size, Cells.fillFrom, Cells.set, zt, pp, pv, pw, pg, d105, gr, wr, e1, e2]
    exact this
  · have ht : tk n (bs, false) = (bs.take n, (bs.drop n, false)) := by unfold tk; rw [if_neg (by simp; omega)]
    rw [ht] at hQ
    have e2 : ¬ (bs.length : Int) < (n : Int) := by omega
    obtain ⟨w1, hw1, r1, b1⟩ := h.sl.take (i := n) (by omega)
    obtain ⟨w2, hw2, r2, b2⟩ := h.sl.drop (i := n) (by omega)
    have hd : ∀ k, k ∈ blk bv → k ∉ [r] := fun k hk e => h.ne (List.mem_singleton.1 e ▸ hk)
    have hlt := h.sl.lt
    obtain ⟨a2, c2, h2⟩ := r2.len
    subst h2
    have hbv' := hbv
    subst hbv
    simp (maxDischargeDepth := 8) only [sA, sM, zc, zp, zl, Cells.get, getN, Nat.reduceLeDiff, zi, pp, pv, pw, pg, repeatZ, Nat.reduceLT, d105, gr, wr, e1, e2, hw1, hw2, hG, hrl]
    obtain ⟨S1, hS1⟩ : ∃ S1 : DS, S1 = s.new (.cells (.list []) false) := ⟨_, rfl⟩
    rw [← hS1]
    have X1 : ∀ F, Ext F s S1 := fun F => by rw [hS1]; exact Ext.new
    have g1 : S1.get s.next = some (.cells (.list []) false) := by rw [hS1]; exact DS.new_get_self hG
    have v1 := (r1.keep (X1 []) (by simp)).view
    rw [← Ya] at v1
    have hx : SlX S1 1 (.slice (some ⟨s.next, 0, none⟩) 0 0) [] := .inr ⟨s.next, none, rfl, .inl rfl, g1, (X1 []).wrs (hG _ (Nat.le_refl _)).2⟩
    refine W.mono (Qy hx v1 ⟨(fun y hy => nomatch hy), (fun y hy => nomatch hy)⟩ (QN _) ((X1 []).good hG) (by rw [Zp, List.length_take]; simp; omega) (by rw [Zp, List.length_take]; simp; omega)) ?_
    rintro ⟨v5, S5⟩ ⟨h5, X5, b5⟩
    simp only [List.nil_append] at h5 X5 b5
    have XS : Ext [] s S5 := (X1 []).trans X5 (by simp [blk])
    have gr5 := XS.keep gr (by simp)
    have wr5 := XS.wrs wr
    have G5 := XS.good hG
    have n5 := XS.le
    have le1 := (X1 []).le
    have n1 : S1.next = s.next + 1 := by rw [hS1]; rfl
    have h5b : ∀ k, k ∈ blk v5 → s.next ≤ k := fun k hk => by
     rcases b5 k hk with h | h
     · simp [blk] at h; omega
     · omega
    have U : ∀ o, Ext [r] S5 (S5.upd r o) := fun o => Ext.upd (.inl (by simp))
    simp (maxDischargeDepth := 8) only [sA, sM, zc, za, zf, Cells.get, getN, Nat.reduceAdd, zh, zg, Nat.reduceLeDiff, DS.wrC, Cells.size, Cells.fillFrom, Cells.set, zt, Nat.reduceLT, gr5, wr5, G5, hw2, show r < S5.next by omega]
    exact hQ _ ⟨_, h5.keep (U _) (fun k hk => by have := h5b k hk; simp; omega), ⟨by rw [DS.upd_get_self, gr5]; rfl, by rw [DS.upd_wr]; exact wr5, (r2.keep XS (by simp)).keep (U _) fun k hk => hd k (b2 k hk), fun hk => h.ne (b2 _ hk)⟩, (XS.weaken (by simp)).trans' (U _), b2, h5b⟩
theorem Tp (h : zI s r bv bs bad) (hG : s.Good) (hl : bs.length ≤ 1048576) (n : Nat) (hn : n ≤ 65536) :
 W (dcall E (d + 1) (.func (.func 105) #[] #[]) [.pointer (some ⟨r, 0, none⟩), .int .i64 (n : Int)] s) fun p => ∃ bv', SlX p.2 1 p.1 (ZP (tk n (bs, bad)).1) ∧ zI p.2 r bv' (tk n (bs, bad)).2.1 (tk n (bs, bad)).2.2 ∧ Ext [r] s p.2 ∧ ∀ k, k ∈ blk bv' → k ∈ blk bv := by
 refine W.mono (KP hR h hG hl n hn) ?_
 rintro p ⟨bv', h1, h2, h3, h4, _⟩
 exact ⟨bv', h1, h2, h3, h4⟩
structure NV (s1 : DS) (w : Value) (l : List Int) (n : Nat) (y : St) : Prop where
 ex : n ≤ l.length ∧ y.s = s1 ∧ y.defers = [] ∧ (y.t.get 5 = some w ∧ y.t.get 6 = some (.int .u64 (leV (l.drop n))) ∧ y.t.get 7 = some (.int .i64 ((n : Int) - 1)))
theorem Dh (h : zI s r bv bs bad) (hG : s.Good) (hB : IsB bs) (hl : bs.length ≤ 1048576) (n : Nat) (hn : n ≤ 8) :
 W (dcall E (d + 2) (.func (.func 71) #[] #[]) [.pointer (some ⟨r, 0, none⟩), .int .i64 (n : Int)] s) fun p => p.1 = .int .u64 (leV (tk n (bs, bad)).1) ∧ ∃ bv', zI p.2 r bv' (tk n (bs, bad)).2.1 (tk n (bs, bad)).2.2 ∧ Ext [r] s p.2 ∧ ∀ k, k ∈ blk bv' → k ∈ blk bv := by
 have hlf := hR.lf
 refine zD fun Q hQ => ?_
 rw [zn hR.iLow hR.fLow rfl]
 simp only [sA, Nat.reduceEqDiff, reduceCtorEq, pp, pv, d71]
 refine W.mono (Tp hR h hG hl n (by omega)) ?_
 rintro ⟨w, s1⟩ ⟨bv', hw, hin, X1, hb1⟩
 simp only at hw hin X1 hb1
 obtain ⟨ll, hll⟩ : ∃ ll, ll = (tk n (bs, bad)).1 := ⟨_, rfl⟩
 have hlB : IsB ll := by
  rw [hll]
  unfold tk
  split
  · exact fun b hb => nomatch hb
  · exact hB.take n
 have hls : ll.length ≤ n := by
  rw [hll]
  unfold tk
  split
  · exact Nat.zero_le _
  · rw [List.length_take]; exact Nat.min_le_left ..
 rw [← hll] at hw hQ
 obtain ⟨wa, hwv⟩ := hw.shape
 rw [Zp] at hwv
 have w0 : zw .i64 ((ll.length : Int) - 1) = (ll.length : Int) - 1 := ZF (by omega) (by omega)
 subst hwv
 simp only [sA, zc, zp, zl, Nat.reduceEqDiff, w0]
 refine Qz (NV s1 (.slice wa ll.length ll.length) ll) ll.length (by omega) ⟨Nat.le_refl _, rfl, rfl, by simp only [sA, Nat.reduceEqDiff, List.drop_length]; rfl⟩ ?_
 rintro j ⟨t, s2, ds⟩ hn ⟨hj, hs2, hds, ⟨g5, g6, g7⟩⟩
 simp only at hs2 hds g5 g6 g7
 subst hs2 hds
 cases j with
 | zero =>
  have e1 : ¬ (0 : Int) ≤ ((0 : Nat) : Int) - 1 := by omega
  simp only [sA, zp, zl, Nat.reduceEqDiff, za, zf, g5, g6, g7, e1]
  exact hQ _ ⟨rfl, bv', hin, X1, hb1⟩
 | succ j =>
  have e1 : (0 : Int) ≤ ((j + 1 : Nat) : Int) - 1 := by omega
  have c1 : j < ll.length := by omega
  have hx : ll[j]? = some ll[j] := List.getElem?_eq_getElem c1
  have hdr : ll.drop j = ll[j] :: ll.drop (j + 1) := List.drop_eq_getElem_cons c1
  generalize ll[j] = x at hx hdr
  have hxr := hlB x (List.mem_of_getElem? hx)
  have hr := Ys (hlB.drop (j + 1))
  have hr2 := Ys (hlB.drop j)
  have h8 := Dn (j := (ll.drop j).length) (by rw [List.length_drop]; omega)
  have hle : leV (ll.drop j) = x + 256 * leV (ll.drop (j + 1)) := by rw [hdr]; rfl
  have w1 : zw .u64 (leV (ll.drop (j + 1)) * 256) = 256 * leV (ll.drop (j + 1)) := by rw [Int.mul_comm]; exact YM (by omega) (by omega)
  have w2 : zw .u64 x = x := YM hxr.1 (by omega)
  have w3 : zw .u64 (256 * leV (ll.drop (j + 1)) + x) = leV (ll.drop j) := by rw [hle, Int.add_comm]; exact YM (by omega) (by omega)
  have w4 : ((j + 1 : Nat) : Int) - 1 = (j : Int) := by omega
  have w5 : zw .i64 ((j : Int) - 1) = (j : Int) - 1 := ZF (by omega) (by omega)
  have e0 : (0 : Int) ≤ (j : Int) := by omega
  obtain ⟨b, sp, hv', _, hb, _⟩ := hw.at (fun e => by have := Zp ll; rw [e] at this; simp at this; omega)
  rw [Zp] at hv'
  injection hv' with hv1 hv2 hv3
  subst hv1
  have hg : getN (ZP ll).flatten j = some (.int .u8 x) := by
   have hmx : (ZP ll)[j]? = some [.int .u8 x] := by unfold ZP; rw [List.getElem?_map, hx]; rfl
   have := Q4 (n := 1) (j := 0) (fun y hy => (by obtain ⟨z, _, rfl⟩ := List.mem_map.1 hy; rfl : y.length = 1)) hmx rfl
   rwa [Nat.mul_one, Nat.add_zero] at this
  rw [w4] at g7
  simp only [sA, zc, zp, zl, Nat.reduceEqDiff, Cells.get, g5, g6, g7, e0, c1, hb, hg, w1, w2, w3, w5]
  exact ⟨j, by omega, ⟨by omega, rfl, rfl, by simp only [sA, Nat.reduceEqDiff, g5]⟩⟩
theorem Ww (h : zI s r bv bs bad) (hG : s.Good) (hB : IsB bs) (hl : bs.length ≤ 1048576) {n : Nat} (hn : n < 8) {most : Int} (hm : 0 ≤ most) :
 W (dcall E (d + 3) (.func (.func 70) #[] #[]) [.pointer (some ⟨r, 0, none⟩), .int .i64 (n : Int), .int .i64 most] s) (F2 s r bv Zv (rdN n most (bs, bad))) := by
 refine zD fun Q hQ => ?_
 rw [zn hR.iCount hR.fCount rfl]
 simp only [sA, Nat.reduceEqDiff, reduceCtorEq, pp, pv, d70]
 refine W.mono (Dh hR h hG hB hl n (by omega)) ?_
 rintro ⟨w, s1⟩ ⟨hw, bv', hin, X1, hb1⟩
 simp only at hw hin X1 hb1
 subst hw
 obtain ⟨ll, hll⟩ : ∃ ll, ll = (tk n (bs, bad)).1 := ⟨_, rfl⟩
 have hlB : IsB ll := by
  rw [hll]
  unfold tk
  split
  · exact fun b hb => nomatch hb
  · exact hB.take n
 have hls : ll.length ≤ n := by
  rw [hll]
  unfold tk
  split
  · exact Nat.zero_le _
  · rw [List.length_take]; exact Nat.min_le_left ..
 rw [← hll]
 have hrv := Ys hlB
 have h7 := Vx (j := ll.length) (by omega)
 have hi : zw .i64 (leV ll) = leV ll := ZF (by omega) (by omega)
 have gr := hin.gr
 have wr := hin.wr
 have hrl := DS.get_lt' gr
 have GS := X1.good hG
 by_cases cA : most < leV ll
 · have hrd : rdN n most (bs, bad) = (0, ((tk n (bs, bad)).2.1, true)) := by
    unfold rdN
    rw [← hll, if_pos (show n < 8 ∧ most < leV ll from ⟨hn, cA⟩)]
    split
    · rename_i hb
      exact Prod.ext rfl (Prod.ext rfl hb)
    · rfl
   rw [hrd] at hQ
   have fin : Q (.int .i64 0, s1.upd r (.cells (.list [bv', .bool true]) false)) :=
    hQ _ ⟨bv', rfl, ⟨by rw [DS.upd_get_self, gr]; rfl, by rw [DS.upd_wr]; exact wr, hin.sl.keep (Ext.upd (F := [r]) (.inl (by simp))) (fun k hk e => hin.ne (List.mem_singleton.1 e ▸ hk)), hin.ne⟩, X1.trans' (Ext.upd (.inl (by simp))), hb1⟩
   simp (maxDischargeDepth := 8) only [sA, sM, zc, zp, zl, za, zf, Cells.get, getN, Nat.reduceAdd, zh, zg, DS.wrC, Cells.size, Cells.fillFrom, Cells.set, zt, Nat.reduceLT, hi, cA, gr, wr, GS, hrl]
   exact fin
 · cases hbad : (tk n (bs, bad)).2.2 with
   | true =>
    have hrd : rdN n most (bs, bad) = (0, (tk n (bs, bad)).2) := by unfold rdN; rw [if_pos hbad]
    rw [hbad] at gr
    rw [hrd] at hQ
    have fin : Q (.int .i64 0, s1) := hQ _ ⟨bv', rfl, hin, X1, hb1⟩
    simp (maxDischargeDepth := 8) only [sA, sM, zc, zp, zl, za, zf, Cells.get, getN, Nat.reduceLT, hi, cA, gr, wr, GS, hrl]
    exact fin
   | false =>
    have hrd : rdN n most (bs, bad) = (zw .i64 (leV ll), (tk n (bs, bad)).2) := by
     unfold rdN
     rw [if_neg (by rw [hbad]; simp), ← hll, if_neg fun h => cA h.2]
    rw [hbad] at gr
    rw [hrd, hi] at hQ
    have fin : Q (.int .i64 (leV ll), s1) := hQ _ ⟨bv', rfl, hin, X1, hb1⟩
    simp (maxDischargeDepth := 8) only [sA, sM, zc, zp, zl, za, zf, Cells.get, getN, Nat.reduceLT, hi, cA, gr, wr, GS, hrl]
    exact fin
theorem Tt (h : zI s r bv bs bad) (hG : s.Good) (hB : IsB bs) (hl : bs.length ≤ 1048576) :
 W (dcall E (d + 4) (.func (.func 69) #[] #[]) [.pointer (some ⟨r, 0, none⟩)] s) (F2 s r bv Zv (rdN 2 4096 (bs, bad))) := by
 refine zD fun Q hQ => ?_
 rw [zn hR.iMany hR.fMany rfl]
 simp only [sA, reduceCtorEq, pp, pv, d69]
 refine W.mono (Ww hR h hG hB hl (n := 2) (by omega) (by omega)) ?_
 rintro ⟨w, s1⟩ h1
 simp only [sA, za, zf]
 exact hQ _ h1
theorem Wu (h : zI s r bv bs bad) (hG : s.Good) (hB : IsB bs) (hl : bs.length ≤ 1048576) :
 W (dcall E (d + 3) (.func (.func 41) #[] #[]) [.pointer (some ⟨r, 0, none⟩)] s) (F2 s r bv Zv (rdN 8 0 (bs, bad))) := by
 refine zD fun Q hQ => ?_
 rw [zn hR.iInt hR.fInt rfl]
 simp only [sA, reduceCtorEq, pp, pv, d41]
 refine W.mono (Dh hR h hG hB hl 8 (by omega)) ?_
 rintro ⟨w, s1⟩ ⟨hw, bv', hin, X1, hb1⟩
 simp only at hw hin X1 hb1
 subst hw
 have hrd : rdN 8 0 (bs, bad) = (zw .i64 (leV (tk 8 (bs, bad)).1), (tk 8 (bs, bad)).2) := by
  unfold rdN
  by_cases hb : (tk 8 (bs, bad)).2.2 = true
  · rw [if_pos hb]
    have : (tk 8 (bs, bad)).1 = [] := by
     unfold tk at hb ⊢
     split
     · rfl
     · rename_i h1
       rw [if_neg h1] at hb
       cases hb
    rw [this]
    rfl
  · rw [if_neg hb, if_neg (by simp)]
 rw [hrd] at hQ
 simp only [sA, zc, za, zf]
 exact hQ _ ⟨bv', rfl, hin, X1, hb1⟩
theorem JQ (h : zI s r bv bs bad) (hG : s.Good) (hB : IsB bs) (hl : bs.length ≤ 1048576) :
 W (dcall E (d + 4) (.func (.func 40) #[] #[]) [.pointer (some ⟨r, 0, none⟩)] s) (F2 s r bv Zv (rdN 1 255 (bs, bad))) := by
 refine zD fun Q hQ => ?_
 rw [zn hR.iByte hR.fByte rfl]
 simp only [sA, reduceCtorEq, pp, pv, d40]
 refine W.mono (Ww hR h hG hB hl (n := 1) (by omega) (by omega)) ?_
 rintro ⟨w, s1⟩ h1
 simp only [sA, za, zf]
 exact hQ _ h1
theorem Tu (h : zI s r bv bs bad) (hG : s.Good) (hB : IsB bs) (hl : bs.length ≤ 1048576) :
 W (dcall E (d + 4) (.func (.func 42) #[] #[]) [.pointer (some ⟨r, 0, none⟩)] s) (F2 s r bv KR (rdF (bs, bad))) := by
 refine zD fun Q hQ => ?_
 rw [zn hR.iFlag hR.fFlag rfl]
 simp only [sA, reduceCtorEq, pp, pv, d42]
 refine W.mono (Ww hR h hG hB hl (n := 1) (by omega) (by omega)) ?_
 rintro ⟨w, s1⟩ ⟨bv', hw, hin, X1, hb1⟩
 simp only at hw hin X1 hb1
 have hw : w = _ := hw
 subst hw
 by_cases c : (rdN 1 1 (bs, bad)).1 = 1
 · have c' : ((rdN 1 1 (bs, bad)).1 = 1) = True := eq_true c
   simp only [sA, zp, zl, za, zf, c']
   exact hQ _ ⟨bv', by show Value.bool true = .bool (decide _); rw [decide_eq_true c], hin, X1, hb1⟩
 · have c' : ((rdN 1 1 (bs, bad)).1 = 1) = False := eq_false c
   simp only [sA, zp, zl, za, zf, c']
   exact hQ _ ⟨bv', by show Value.bool false = .bool (decide _); rw [decide_eq_false c], hin, X1, hb1⟩
theorem Tz (h : zI s r bv bs bad) (hG : s.Good) (hB : IsB bs) (hl : bs.length ≤ 1048576) :
 W (dcall E (d + 4) (.func (.func 68) #[] #[]) [.pointer (some ⟨r, 0, none⟩)] s) fun p => ∃ bv', SlX p.2 1 p.1 (ZP (rdB (bs, bad)).1) ∧ zI p.2 r bv' (rdB (bs, bad)).2.1 (rdB (bs, bad)).2.2 ∧ Ext [r] s p.2 ∧ (∀ k, k ∈ blk bv' → k ∈ blk bv) ∧ ∀ k, k ∈ blk p.1 → s.next ≤ k := by
 refine zD fun Q hQ => ?_
 rw [zn hR.iBlob hR.fBlob rfl]
 simp only [sA, reduceCtorEq, pp, pv, d68]
 refine W.mono (Ww hR h hG hB hl (n := 4) (by omega) (by omega)) ?_
 rintro ⟨w, s1⟩ ⟨bv1, hw, hin, X1, hb1⟩
 simp only at hw hin X1 hb1
 have hw : w = _ := hw
 subst hw
 have hr := Wv (size := 4) (most := 65536) (bs, bad) hB (by decide) (by decide)
 obtain ⟨k, hk⟩ := (zA 4 65536).suf (bs, bad)
 obtain ⟨N, hN⟩ : ∃ N : Nat, (N : Int) = (rdN 4 65536 (bs, bad)).1 := ⟨(rdN 4 65536 (bs, bad)).1.toNat, Int.toNat_of_nonneg hr.1⟩
 have hE : rdB (bs, bad) = tk N (rdN 4 65536 (bs, bad)).2 := by
  unfold rdB
  rw [← hN, Int.toNat_natCast]
 rw [hE] at hQ
 rw [← hN]
 obtain ⟨st, hst⟩ : ∃ st, st = (rdN 4 65536 (bs, bad)).2 := ⟨_, rfl⟩
 rw [← hst] at hin hQ hk
 simp only [sA, Nat.reduceEqDiff]
 refine W.mono (KP hR (d := d + 2) hin (X1.good hG) (by rw [hk]; simp; omega) N (by omega)) ?_
 rintro ⟨v2, s2⟩ ⟨bv2, h2, i2, X2, b2, f2⟩
 simp only at h2 i2 X2 b2 f2
 simp only [sA, za, zf]
 exact hQ _ ⟨bv2, h2, i2, X1.trans' X2, fun k hk => hb1 k (b2 k hk), fun k hk => by have := X1.le; have := f2 k hk; omega⟩
end
end Go.Dx.TbA
namespace Go.Dx.TbA
open Go Go.Dx Go.Dx.Tab Go.Proofs.YthmgnfeljhdioaaGreat
section
variable {E : Env} {s : DS} {d : Nat}
theorem Cu (hf : E.fn 11 = some d11) (hi : E.intr 11 = none) (hG : s.Good) (r : Rp) : W (dcall E (d + 1) (.func (.func 11) #[] #[]) [.agg ⟨r.cells⟩] s) fun x => x.1 = .bool (decide (ZQ r)) ∧ Ext [] s x.2 := by
 refine zD fun Q hQ => ?_
 rw [zn hi hf rfl]
 cases hrej : r.rej with
 | false =>
  have hnr : ¬ (r.rej = true ∧ (r.trap ≠ 0 ∨ r.v ≠ 0 ∨ r.gas ≠ 0)) := fun h => by rw [hrej] at h; cases h.1
  by_cases c1 : 0 ≤ r.c
  · skip
    by_cases c2 : r.c ≤ 63
    · skip
      by_cases c3 : 1 ≤ r.n
      · skip
        by_cases c4 : r.n ≤ 1099511627776
        · skip
          by_cases c5 : 0 ≤ r.trap
          · skip
            by_cases c6 : r.trap ≤ 6
            · skip
              by_cases c7 : 0 ≤ r.gas
              · skip
                by_cases c8 : r.gas ≤ 1048576
                · skip
                  have hyes : ZQ r := ⟨hnr, ⟨c1, c2, c3, c4⟩, c5, c6, c7, c8⟩
                  rw [decide_eq_true hyes] at hQ
                  simp (maxDischargeDepth := 8) only [sA, sM, zc, zp, zl, za, zf, Cells.get, getN, pp, pv, pw, pg, Nat.reduceLT, d11, hG, Rp.cells, hrej, c1, c2, c3, c4, c5, c6, c7, c8]
                  exact hQ _ ⟨rfl, Ext.new⟩
                · have hno : ¬ ZQ r := fun h => c8 h.2.2.2.2.2
                  rw [decide_eq_false hno] at hQ
                  simp (maxDischargeDepth := 8) only [sA, sM, zc, zp, zl, za, zf, Cells.get, getN, pp, pv, pw, pg, Nat.reduceLT, d11, hG, Rp.cells, hrej, c1, c2, c3, c4, c5, c6, c7, c8]
                  exact hQ _ ⟨rfl, Ext.new⟩
              · have hno : ¬ ZQ r := fun h => c7 h.2.2.2.2.1
                rw [decide_eq_false hno] at hQ
                simp (maxDischargeDepth := 8) only [sA, sM, zc, zp, zl, za, zf, Cells.get, getN, pp, pv, pw, pg, Nat.reduceLT, d11, hG, Rp.cells, hrej, c1, c2, c3, c4, c5, c6, c7]
                exact hQ _ ⟨rfl, Ext.new⟩
            · have hno : ¬ ZQ r := fun h => c6 h.2.2.2.1
              rw [decide_eq_false hno] at hQ
              simp (maxDischargeDepth := 8) only [sA, sM, zc, zp, zl, za, zf, Cells.get, getN, pp, pv, pw, pg, Nat.reduceLT, d11, hG, Rp.cells, hrej, c1, c2, c3, c4, c5, c6]
              exact hQ _ ⟨rfl, Ext.new⟩
          · have hno : ¬ ZQ r := fun h => c5 h.2.2.1
            rw [decide_eq_false hno] at hQ
            simp (maxDischargeDepth := 8) only [sA, sM, zc, zp, zl, za, zf, Cells.get, getN, pp, pv, pw, pg, Nat.reduceLT, d11, hG, Rp.cells, hrej, c1, c2, c3, c4, c5]
            exact hQ _ ⟨rfl, Ext.new⟩
        · have hno : ¬ ZQ r := fun h => c4 h.2.1.2.2.2
          rw [decide_eq_false hno] at hQ
          simp (maxDischargeDepth := 8) only [sA, sM, zc, zp, zl, za, zf, Cells.get, getN, pp, pv, pw, pg, Nat.reduceLT, d11, hG, Rp.cells, hrej, c1, c2, c3, c4]
          exact hQ _ ⟨rfl, Ext.new⟩
      · have hno : ¬ ZQ r := fun h => c3 h.2.1.2.2.1
        rw [decide_eq_false hno] at hQ
        simp (maxDischargeDepth := 8) only [sA, sM, zc, zp, zl, za, zf, Cells.get, getN, pp, pv, pw, pg, Nat.reduceLT, d11, hG, Rp.cells, hrej, c1, c2, c3]
        exact hQ _ ⟨rfl, Ext.new⟩
    · have hno : ¬ ZQ r := fun h => c2 h.2.1.2.1
      rw [decide_eq_false hno] at hQ
      simp (maxDischargeDepth := 8) only [sA, sM, zc, zp, zl, za, zf, Cells.get, getN, pp, pv, pw, pg, Nat.reduceLT, d11, hG, Rp.cells, hrej, c1, c2]
      exact hQ _ ⟨rfl, Ext.new⟩
  · have hno : ¬ ZQ r := fun h => c1 h.2.1.1
    rw [decide_eq_false hno] at hQ
    simp (maxDischargeDepth := 8) only [sA, sM, zc, zp, zl, za, zf, Cells.get, getN, pp, pv, pw, pg, Nat.reduceLT, d11, hG, Rp.cells, hrej, c1]
    exact hQ _ ⟨rfl, Ext.new⟩
 | true =>
  by_cases a1 : r.trap = 0
  · by_cases a2 : r.v = 0
    · by_cases a3 : r.gas = 0
      · have hnr : ¬ (r.rej = true ∧ (r.trap ≠ 0 ∨ r.v ≠ 0 ∨ r.gas ≠ 0)) := fun h => by rcases h.2 with h | h | h <;> contradiction
        by_cases c1 : 0 ≤ r.c
        · skip
          by_cases c2 : r.c ≤ 63
          · skip
            by_cases c3 : 1 ≤ r.n
            · skip
              by_cases c4 : r.n ≤ 1099511627776
              · skip
                have hyes : ZQ r := ⟨hnr, ⟨c1, c2, c3, c4⟩, by omega, by omega, by omega, by omega⟩
                rw [decide_eq_true hyes] at hQ
                simp (maxDischargeDepth := 8) only [sA, sM, zc, zp, zl, za, zf, Cells.get, getN, pp, pv, pw, pg, Int.reduceLE, Nat.reduceLT, d11, hG, Rp.cells, hrej, a1, a2, a3, c1, c2, c3, c4]
                exact hQ _ ⟨rfl, Ext.new⟩
              · have hno : ¬ ZQ r := fun h => c4 h.2.1.2.2.2
                rw [decide_eq_false hno] at hQ
                simp (maxDischargeDepth := 8) only [sA, sM, zc, zp, zl, za, zf, Cells.get, getN, pp, pv, pw, pg, Nat.reduceLT, d11, hG, Rp.cells, hrej, a1, a2, a3, c1, c2, c3, c4]
                exact hQ _ ⟨rfl, Ext.new⟩
            · have hno : ¬ ZQ r := fun h => c3 h.2.1.2.2.1
              rw [decide_eq_false hno] at hQ
              simp (maxDischargeDepth := 8) only [sA, sM, zc, zp, zl, za, zf, Cells.get, getN, pp, pv, pw, pg, Nat.reduceLT, d11, hG, Rp.cells, hrej, a1, a2, a3, c1, c2, c3]
              exact hQ _ ⟨rfl, Ext.new⟩
          · have hno : ¬ ZQ r := fun h => c2 h.2.1.2.1
            rw [decide_eq_false hno] at hQ
            simp (maxDischargeDepth := 8) only [sA, sM, zc, zp, zl, za, zf, Cells.get, getN, pp, pv, pw, pg, Nat.reduceLT, d11, hG, Rp.cells, hrej, a1, a2, a3, c1, c2]
            exact hQ _ ⟨rfl, Ext.new⟩
        · have hno : ¬ ZQ r := fun h => c1 h.2.1.1
          rw [decide_eq_false hno] at hQ
          simp (maxDischargeDepth := 8) only [sA, sM, zc, zp, zl, za, zf, Cells.get, getN, pp, pv, pw, pg, Nat.reduceLT, d11, hG, Rp.cells, hrej, a1, a2, a3, c1]
          exact hQ _ ⟨rfl, Ext.new⟩
      · have hno : ¬ ZQ r := fun h => h.1 ⟨hrej, .inr (.inr a3)⟩
        rw [decide_eq_false hno] at hQ
        simp (maxDischargeDepth := 8) only [sA, sM, zc, zp, zl, za, zf, Cells.get, getN, pp, pv, pw, pg, Nat.reduceLT, d11, hG, Rp.cells, hrej, a1, a2, a3]
        exact hQ _ ⟨rfl, Ext.new⟩
    · have hno : ¬ ZQ r := fun h => h.1 ⟨hrej, .inr (.inl a2)⟩
      rw [decide_eq_false hno] at hQ
      simp (maxDischargeDepth := 8) only [sA, sM, zc, zp, zl, za, zf, Cells.get, getN, pp, pv, pw, pg, Nat.reduceLT, d11, hG, Rp.cells, hrej, a1, a2]
      exact hQ _ ⟨rfl, Ext.new⟩
  · have hno : ¬ ZQ r := fun h => h.1 ⟨hrej, .inl a1⟩
    rw [decide_eq_false hno] at hQ
    simp (maxDischargeDepth := 8) only [sA, sM, zc, zp, zl, za, zf, Cells.get, getN, pp, pv, pw, pg, Nat.reduceLT, d11, hG, Rp.cells, hrej, a1]
    exact hQ _ ⟨rfl, Ext.new⟩
end
section
variable {E : Env} (hR : QP E) {s : DS} {r : Nat} {bv : Value} {bs : List Int} {bad : Bool} {d : Nat}
include hR
theorem Cs (h : zI s r bv bs bad) (hG : s.Good) (hB : IsB bs) (hl : bs.length ≤ 1048576) :
 W (dcall E (d + 5) (.func (.func 18) #[] #[]) [.pointer (some ⟨r, 0, none⟩)] s) fun p => p.1 = .tuple ⟨[.agg ⟨(Vw (ZS (bs, bad)).1).cells⟩, .bool (decide ((ZS (bs, bad)).2.2 = false ∧ ZQ (Vw (ZS (bs, bad)).1)))]⟩ ∧ ∃ bv', zI p.2 r bv' (ZS (bs, bad)).2.1 (ZS (bs, bad)).2.2 ∧ Ext [r] s p.2 ∧ ∀ k, k ∈ blk bv' → k ∈ blk bv := by
 have hrl := DS.get_lt' h.gr
 refine zD fun Q hQ => ?_
 rw [zn hR.iRR hR.fRR rfl]
 obtain ⟨S0, hS0⟩ : ∃ S0 : DS, S0 = ((s.new (.cells (.list [.int .i64 0, .int .i64 0, .bool false, .int .i64 0, .int .i64 0, .int .i64 0]) false)).new (.cells (.list [.int .i64 0, .int .i64 0, .bool false, .int .i64 0, .int .i64 0, .int .i64 0]) false)).upd (s.next + 1) (.cells (.list [.int .i64 0, .int .i64 0, .bool false, .int .i64 0, .int .i64 0, .int .i64 0]) false) := ⟨_, rfl⟩
 have X0 : Ext [] s S0 := by
  rw [hS0]
  have a1 : Ext [] s ((s.new (.cells (.list [.int .i64 0, .int .i64 0, .bool false, .int .i64 0, .int .i64 0, .int .i64 0]) false)).new (.cells (.list [.int .i64 0, .int .i64 0, .bool false, .int .i64 0, .int .i64 0, .int .i64 0]) false)) := Ext.new.trans' Ext.new
  exact a1.trans (Ext.upd (F := [s.next + 1]) (.inl (by simp))) (by simp)
 have G0 := X0.good hG
 have gA0 : S0.get s.next = some (.cells (.list [.int .i64 0, .int .i64 0, .bool false, .int .i64 0, .int .i64 0, .int .i64 0]) false) := by rw [hS0]; simp (maxDischargeDepth := 8) only [sA, sM, hG]
 have gB0 : S0.get (s.next + 1) = some (.cells (.list [.int .i64 0, .int .i64 0, .bool false, .int .i64 0, .int .i64 0, .int .i64 0]) false) := by rw [hS0]; simp (maxDischargeDepth := 8) only [sA, sM, hG]
 have w0 : ∀ k, S0.wr (s.next + k) = true := fun k => X0.wrs (hG _ (Nat.le_add_right _ _)).2
 have n0 : S0.next = s.next + 2 := by rw [hS0]; simp (maxDischargeDepth := 8) only [sA, Nat.reduceAdd, Nat.add_assoc]
 obtain ⟨x0, hx0⟩ : ∃ x0 : RS, x0 = (bs, bad) := ⟨_, rfl⟩
 have I0 : zI S0 r bv x0.1 x0.2 := by rw [hx0]; exact h.keep X0 (by simp) (by simp)
 have B0 : IsB x0.1 := by rw [hx0]; exact hB
 have L0 : x0.1.length ≤ 1048576 := by rw [hx0]; exact hl
 have b0 : ∀ k, k ∈ blk bv → k ∈ blk bv := fun _ h => h
 have Y0 : Ext [r] s S0 := X0.weaken (by simp)
 have hx0' : x0 = (x0.1, x0.2) := rfl
 simp (maxDischargeDepth := 8) only [sA, sM, Nat.reduceAdd, zh, zg, DS.wrC, Cells.size, Cells.fillFrom, Cells.set, zt, zi, pp, pv, d18, hG, ← hS0]
 refine W.mono (JQ hR (d := d) (bs := x0.1) (bad := x0.2) I0 G0 B0 L0) ?_
 rintro ⟨v1, T1⟩ ⟨bv1, hv1, IT1, XT1, bT1⟩
 simp only at hv1 IT1 XT1 bT1
 have hv1 : v1 = _ := hv1
 subst hv1
 obtain ⟨y0, hy0⟩ : ∃ y, y = (rdN 1 255 x0).1 := ⟨_, rfl⟩
 obtain ⟨x1, hx1⟩ : ∃ x, x = (rdN 1 255 x0).2 := ⟨_, rfl⟩
 have hvy1 : Value.int .i64 (rdN 1 255 x0).1 = Value.int .i64 y0 := by rw [hy0]
 rw [show ((x0.1, x0.2) : RS) = x0 from rfl] at IT1
 rw [show ((x0.1, x0.2) : RS) = x0 from rfl]
 rw [← hy0]
 rw [← hx1] at IT1
 obtain ⟨k1, hk1⟩ := (zA 1 255).suf x0
 rw [← hx1] at hk1
 have gT1 := XT1.keep gB0 (by simp; omega)
 have wT1 : ∀ k, T1.wr (s.next + k) = true := fun k => XT1.wrs (w0 k)
 simp (maxDischargeDepth := 8) only [sA, sM, zc, Nat.reduceAdd, zh, zg, Nat.reduceLeDiff, DS.wrC, Cells.size, Cells.fillFrom, Cells.set, zt, Nat.reduceLT, gT1, wT1]
 obtain ⟨S1, hS1⟩ : ∃ S : DS, S = T1.upd (s.next + 1) (.cells (.list [.int .i64 y0, .int .i64 0, .bool false, .int .i64 0, .int .i64 0, .int .i64 0]) false) := ⟨_, rfl⟩
 rw [← hS1]
 have XU1 : Ext [s.next + 1] T1 S1 := by rw [hS1]; exact Ext.upd (.inl (by simp))
 have gB1 : S1.get (s.next + 1) = some (.cells (.list [.int .i64 y0, .int .i64 0, .bool false, .int .i64 0, .int .i64 0, .int .i64 0]) false) := by rw [hS1, DS.upd_get_self, gT1]; rfl
 have gA1 := XU1.keep (XT1.keep gA0 (by simp; omega)) (by simp)
 have w1 : ∀ k, S1.wr (s.next + k) = true := fun k => XU1.wrs (wT1 k)
 have b1 : ∀ k, k ∈ blk bv1 → k ∈ blk bv := fun k hk => b0 k (bT1 k hk)
 have I1 : zI S1 r bv1 x1.1 x1.2 := IT1.keep XU1 (by simp; omega) (fun k hk => by have := h.sl.lt k (b1 k hk); simp; omega)
 have B1 : IsB x1.1 := by rw [hk1]; exact B0.drop k1
 have L1 : x1.1.length ≤ 1048576 := by rw [hk1]; simp; omega
 have Y1 : Ext [r] s S1 := (Y0.trans' XT1).trans XU1 (by simp)
 have G1 := Y1.good hG
 have n1 : S1.next = T1.next := by rw [hS1, DS.upd_next]
 clear hS1
 refine W.mono (Wu hR (d := d + 1) (bs := x1.1) (bad := x1.2) I1 G1 B1 L1) ?_
 rintro ⟨v2, T2⟩ ⟨bv2, hv2, IT2, XT2, bT2⟩
 simp only at hv2 IT2 XT2 bT2
 have hv2 : v2 = _ := hv2
 subst hv2
 obtain ⟨y1, hy1⟩ : ∃ y, y = (rdN 8 0 x1).1 := ⟨_, rfl⟩
 obtain ⟨x2, hx2⟩ : ∃ x, x = (rdN 8 0 x1).2 := ⟨_, rfl⟩
 have hvy2 : Value.int .i64 (rdN 8 0 x1).1 = Value.int .i64 y1 := by rw [hy1]
 rw [show ((x1.1, x1.2) : RS) = x1 from rfl] at IT2
 rw [show ((x1.1, x1.2) : RS) = x1 from rfl]
 rw [← hy1]
 rw [← hx2] at IT2
 obtain ⟨k2, hk2⟩ := (zA 8 0).suf x1
 rw [← hx2] at hk2
 have gT2 := XT2.keep gB1 (by simp; omega)
 have wT2 : ∀ k, T2.wr (s.next + k) = true := fun k => XT2.wrs (w1 k)
 simp (maxDischargeDepth := 8) only [sA, sM, zc, Nat.reduceAdd, zh, zg, Nat.reduceLeDiff, DS.wrC, Cells.size, Cells.fillFrom, Cells.set, zt, Nat.reduceLT, gT2, wT2]
 obtain ⟨S2, hS2⟩ : ∃ S : DS, S = T2.upd (s.next + 1) (.cells (.list [.int .i64 y0, .int .i64 y1, .bool false, .int .i64 0, .int .i64 0, .int .i64 0]) false) := ⟨_, rfl⟩
 rw [← hS2]
 have XU2 : Ext [s.next + 1] T2 S2 := by rw [hS2]; exact Ext.upd (.inl (by simp))
 have gB2 : S2.get (s.next + 1) = some (.cells (.list [.int .i64 y0, .int .i64 y1, .bool false, .int .i64 0, .int .i64 0, .int .i64 0]) false) := by rw [hS2, DS.upd_get_self, gT2]; rfl
 have gA2 := XU2.keep (XT2.keep gA1 (by simp; omega)) (by simp)
 have w2 : ∀ k, S2.wr (s.next + k) = true := fun k => XU2.wrs (wT2 k)
 have b2 : ∀ k, k ∈ blk bv2 → k ∈ blk bv := fun k hk => b1 k (bT2 k hk)
 have I2 : zI S2 r bv2 x2.1 x2.2 := IT2.keep XU2 (by simp; omega) (fun k hk => by have := h.sl.lt k (b2 k hk); simp; omega)
 have B2 : IsB x2.1 := by rw [hk2]; exact B1.drop k2
 have L2 : x2.1.length ≤ 1048576 := by rw [hk2]; simp; omega
 have Y2 : Ext [r] s S2 := (Y1.trans' XT2).trans XU2 (by simp)
 have G2 := Y2.good hG
 have n2 : S2.next = T2.next := by rw [hS2, DS.upd_next]
 clear hS2
 refine W.mono (Tu hR (d := d) (bs := x2.1) (bad := x2.2) I2 G2 B2 L2) ?_
 rintro ⟨v3, T3⟩ ⟨bv3, hv3, IT3, XT3, bT3⟩
 simp only at hv3 IT3 XT3 bT3
 have hv3 : v3 = _ := hv3
 subst hv3
 obtain ⟨y2, hy2⟩ : ∃ y, y = (rdF x2).1 := ⟨_, rfl⟩
 obtain ⟨x3, hx3⟩ : ∃ x, x = (rdF x2).2 := ⟨_, rfl⟩
 have hvy3 : Value.bool (rdF x2).1 = Value.bool y2 := by rw [hy2]
 rw [show ((x2.1, x2.2) : RS) = x2 from rfl] at IT3
 rw [show ((x2.1, x2.2) : RS) = x2 from rfl]
 rw [← hy2]
 rw [← hx3] at IT3
 obtain ⟨k3, hk3⟩ := Ft.suf x2
 rw [← hx3] at hk3
 have gT3 := XT3.keep gB2 (by simp; omega)
 have wT3 : ∀ k, T3.wr (s.next + k) = true := fun k => XT3.wrs (w2 k)
 simp (maxDischargeDepth := 8) only [sA, sM, zc, Nat.reduceAdd, zh, zg, Nat.reduceLeDiff, DS.wrC, Cells.size, Cells.fillFrom, Cells.set, zt, Nat.reduceLT, gT3, wT3]
 obtain ⟨S3, hS3⟩ : ∃ S : DS, S = T3.upd (s.next + 1) (.cells (.list [.int .i64 y0, .int .i64 y1, .bool y2, .int .i64 0, .int .i64 0, .int .i64 0]) false) := ⟨_, rfl⟩
 rw [← hS3]
 have XU3 : Ext [s.next + 1] T3 S3 := by rw [hS3]; exact Ext.upd (.inl (by simp))
 have gB3 : S3.get (s.next + 1) = some (.cells (.list [.int .i64 y0, .int .i64 y1, .bool y2, .int .i64 0, .int .i64 0, .int .i64 0]) false) := by rw [hS3, DS.upd_get_self, gT3]; rfl
 have gA3 := XU3.keep (XT3.keep gA2 (by simp; omega)) (by simp)
 have w3 : ∀ k, S3.wr (s.next + k) = true := fun k => XU3.wrs (wT3 k)
 have b3 : ∀ k, k ∈ blk bv3 → k ∈ blk bv := fun k hk => b2 k (bT3 k hk)
 have I3 : zI S3 r bv3 x3.1 x3.2 := IT3.keep XU3 (by simp; omega) (fun k hk => by have := h.sl.lt k (b3 k hk); simp; omega)
 have B3 : IsB x3.1 := by rw [hk3]; exact B2.drop k3
 have L3 : x3.1.length ≤ 1048576 := by rw [hk3]; simp; omega
 have Y3 : Ext [r] s S3 := (Y2.trans' XT3).trans XU3 (by simp)
 have G3 := Y3.good hG
 have n3 : S3.next = T3.next := by rw [hS3, DS.upd_next]
 clear hS3
 refine W.mono (JQ hR (d := d) (bs := x3.1) (bad := x3.2) I3 G3 B3 L3) ?_
 rintro ⟨v4, T4⟩ ⟨bv4, hv4, IT4, XT4, bT4⟩
 simp only at hv4 IT4 XT4 bT4
 have hv4 : v4 = _ := hv4
 subst hv4
 obtain ⟨y3, hy3⟩ : ∃ y, y = (rdN 1 255 x3).1 := ⟨_, rfl⟩
 obtain ⟨x4, hx4⟩ : ∃ x, x = (rdN 1 255 x3).2 := ⟨_, rfl⟩
 have hvy4 : Value.int .i64 (rdN 1 255 x3).1 = Value.int .i64 y3 := by rw [hy3]
 rw [show ((x3.1, x3.2) : RS) = x3 from rfl] at IT4
 rw [show ((x3.1, x3.2) : RS) = x3 from rfl]
 rw [← hy3]
 rw [← hx4] at IT4
 obtain ⟨k4, hk4⟩ := (zA 1 255).suf x3
 rw [← hx4] at hk4
 have gT4 := XT4.keep gB3 (by simp; omega)
 have wT4 : ∀ k, T4.wr (s.next + k) = true := fun k => XT4.wrs (w3 k)
 simp (maxDischargeDepth := 8) only [sA, sM, zc, Nat.reduceAdd, zh, zg, Nat.reduceLeDiff, DS.wrC, Cells.size, Cells.fillFrom, Cells.set, zt, Nat.reduceLT, gT4, wT4]
 obtain ⟨S4, hS4⟩ : ∃ S : DS, S = T4.upd (s.next + 1) (.cells (.list [.int .i64 y0, .int .i64 y1, .bool y2, .int .i64 y3, .int .i64 0, .int .i64 0]) false) := ⟨_, rfl⟩
 rw [← hS4]
 have XU4 : Ext [s.next + 1] T4 S4 := by rw [hS4]; exact Ext.upd (.inl (by simp))
 have gB4 : S4.get (s.next + 1) = some (.cells (.list [.int .i64 y0, .int .i64 y1, .bool y2, .int .i64 y3, .int .i64 0, .int .i64 0]) false) := by rw [hS4, DS.upd_get_self, gT4]; rfl
 have gA4 := XU4.keep (XT4.keep gA3 (by simp; omega)) (by simp)
 have w4 : ∀ k, S4.wr (s.next + k) = true := fun k => XU4.wrs (wT4 k)
 have b4 : ∀ k, k ∈ blk bv4 → k ∈ blk bv := fun k hk => b3 k (bT4 k hk)
 have I4 : zI S4 r bv4 x4.1 x4.2 := IT4.keep XU4 (by simp; omega) (fun k hk => by have := h.sl.lt k (b4 k hk); simp; omega)
 have B4 : IsB x4.1 := by rw [hk4]; exact B3.drop k4
 have L4 : x4.1.length ≤ 1048576 := by rw [hk4]; simp; omega
 have Y4 : Ext [r] s S4 := (Y3.trans' XT4).trans XU4 (by simp)
 have G4 := Y4.good hG
 have n4 : S4.next = T4.next := by rw [hS4, DS.upd_next]
 clear hS4
 refine W.mono (Wu hR (d := d + 1) (bs := x4.1) (bad := x4.2) I4 G4 B4 L4) ?_
 rintro ⟨v5, T5⟩ ⟨bv5, hv5, IT5, XT5, bT5⟩
 simp only at hv5 IT5 XT5 bT5
 have hv5 : v5 = _ := hv5
 subst hv5
 obtain ⟨y4, hy4⟩ : ∃ y, y = (rdN 8 0 x4).1 := ⟨_, rfl⟩
 obtain ⟨x5, hx5⟩ : ∃ x, x = (rdN 8 0 x4).2 := ⟨_, rfl⟩
 have hvy5 : Value.int .i64 (rdN 8 0 x4).1 = Value.int .i64 y4 := by rw [hy4]
 rw [show ((x4.1, x4.2) : RS) = x4 from rfl] at IT5
 rw [show ((x4.1, x4.2) : RS) = x4 from rfl]
 rw [← hy4]
 rw [← hx5] at IT5
 obtain ⟨k5, hk5⟩ := (zA 8 0).suf x4
 rw [← hx5] at hk5
 have gT5 := XT5.keep gB4 (by simp; omega)
 have wT5 : ∀ k, T5.wr (s.next + k) = true := fun k => XT5.wrs (w4 k)
 simp (maxDischargeDepth := 8) only [sA, sM, zc, Nat.reduceAdd, zh, zg, Nat.reduceLeDiff, DS.wrC, Cells.size, Cells.fillFrom, Cells.set, zt, Nat.reduceLT, gT5, wT5]
 obtain ⟨S5, hS5⟩ : ∃ S : DS, S = T5.upd (s.next + 1) (.cells (.list [.int .i64 y0, .int .i64 y1, .bool y2, .int .i64 y3, .int .i64 y4, .int .i64 0]) false) := ⟨_, rfl⟩
 rw [← hS5]
 have XU5 : Ext [s.next + 1] T5 S5 := by rw [hS5]; exact Ext.upd (.inl (by simp))
 have gB5 : S5.get (s.next + 1) = some (.cells (.list [.int .i64 y0, .int .i64 y1, .bool y2, .int .i64 y3, .int .i64 y4, .int .i64 0]) false) := by rw [hS5, DS.upd_get_self, gT5]; rfl
 have gA5 := XU5.keep (XT5.keep gA4 (by simp; omega)) (by simp)
 have w5 : ∀ k, S5.wr (s.next + k) = true := fun k => XU5.wrs (wT5 k)
 have b5 : ∀ k, k ∈ blk bv5 → k ∈ blk bv := fun k hk => b4 k (bT5 k hk)
 have I5 : zI S5 r bv5 x5.1 x5.2 := IT5.keep XU5 (by simp; omega) (fun k hk => by have := h.sl.lt k (b5 k hk); simp; omega)
 have B5 : IsB x5.1 := by rw [hk5]; exact B4.drop k5
 have L5 : x5.1.length ≤ 1048576 := by rw [hk5]; simp; omega
 have Y5 : Ext [r] s S5 := (Y4.trans' XT5).trans XU5 (by simp)
 have G5 := Y5.good hG
 have n5 : S5.next = T5.next := by rw [hS5, DS.upd_next]
 clear hS5
 refine W.mono (Wu hR (d := d + 1) (bs := x5.1) (bad := x5.2) I5 G5 B5 L5) ?_
 rintro ⟨v6, T6⟩ ⟨bv6, hv6, IT6, XT6, bT6⟩
 simp only at hv6 IT6 XT6 bT6
 have hv6 : v6 = _ := hv6
 subst hv6
 obtain ⟨y5, hy5⟩ : ∃ y, y = (rdN 8 0 x5).1 := ⟨_, rfl⟩
 obtain ⟨x6, hx6⟩ : ∃ x, x = (rdN 8 0 x5).2 := ⟨_, rfl⟩
 have hvy6 : Value.int .i64 (rdN 8 0 x5).1 = Value.int .i64 y5 := by rw [hy5]
 rw [show ((x5.1, x5.2) : RS) = x5 from rfl] at IT6
 rw [show ((x5.1, x5.2) : RS) = x5 from rfl]
 rw [← hy5]
 rw [← hx6] at IT6
 obtain ⟨k6, hk6⟩ := (zA 8 0).suf x5
 rw [← hx6] at hk6
 have gT6 := XT6.keep gB5 (by simp; omega)
 have wT6 : ∀ k, T6.wr (s.next + k) = true := fun k => XT6.wrs (w5 k)
 simp (maxDischargeDepth := 8) only [sA, sM, zc, Cells.get, getN, Nat.reduceAdd, zh, zg, DS.wrC, Cells.size, Cells.fillFrom, Cells.set, zt, ldA, foot, DS.read, Cells.take, Nat.reduceLT, gT6, wT6]
 obtain ⟨S6, hS6⟩ : ∃ S : DS, S = T6.upd (s.next + 1) (.cells (.list [.int .i64 y0, .int .i64 y1, .bool y2, .int .i64 y3, .int .i64 y4, .int .i64 y5]) false) := ⟨_, rfl⟩
 rw [← hS6]
 have XU6 : Ext [s.next + 1] T6 S6 := by rw [hS6]; exact Ext.upd (.inl (by simp))
 have gB6 : S6.get (s.next + 1) = some (.cells (.list [.int .i64 y0, .int .i64 y1, .bool y2, .int .i64 y3, .int .i64 y4, .int .i64 y5]) false) := by rw [hS6, DS.upd_get_self, gT6]; rfl
 have gA6 := XU6.keep (XT6.keep gA5 (by simp; omega)) (by simp)
 have w6 : ∀ k, S6.wr (s.next + k) = true := fun k => XU6.wrs (wT6 k)
 have b6 : ∀ k, k ∈ blk bv6 → k ∈ blk bv := fun k hk => b5 k (bT6 k hk)
 have I6 : zI S6 r bv6 x6.1 x6.2 := IT6.keep XU6 (by simp; omega) (fun k hk => by have := h.sl.lt k (b6 k hk); simp; omega)
 have B6 : IsB x6.1 := by rw [hk6]; exact B5.drop k6
 have L6 : x6.1.length ≤ 1048576 := by rw [hk6]; simp; omega
 have Y6 : Ext [r] s S6 := (Y5.trans' XT6).trans XU6 (by simp)
 have G6 := Y6.good hG
 have n6 : S6.next = T6.next := by rw [hS6, DS.upd_next]
 clear hS6
 have hTd : ZS (bs, bad) = ((((y0, y1), y2), (y3, (y4, y5))), x6) := by
  subst hy0 hy1 hy2 hy3 hy4 hy5 hx6 hx5 hx4 hx3 hx2 hx1 hx0
  rfl
 rw [hTd] at hQ
 have gr6 := I6.gr
 have hb1 : Nat.ble (T6.next + 1) s.next = false := by rw [Ze]; have := Y6.le; omega
 have lr : ¬ r = s.next := by omega
 have lr1 : ¬ r = s.next + 1 := by omega
 have Xend : ∀ (S : DS) (o : DObj), Ext [r] s S → Ext [r] s (S.upd s.next o) := fun S o Y => Y.trans (Ext.upd (F := [s.next]) (.inl (by simp))) (by simp)
 have hout : ∀ (S : DS) (o : DObj), zI S r bv6 x6.1 x6.2 → zI (S.upd s.next o) r bv6 x6.1 x6.2 := fun S o I => I.keep (Ext.upd (F := [s.next]) (.inl (by simp))) (by simp; omega) (fun k hk => by have := h.sl.lt k (b6 k hk); simp; omega)
 have wA6 : S6.wr s.next = true := w6 0
 cases hb : x6.2 with
 | true =>
  rw [hb] at gr6
  simp (maxDischargeDepth := 8) only [sA, sM, zc, zk, za, zf, Cells.get, getN, Nat.reduceAdd, zh, zg, DS.wrC, Cells.size, Cells.fillFrom, Cells.set, zt, foot, DS.read, Cells.take, Nat.reduceLT, gr6, gA6, gB6, wA6]
  refine hQ _ ⟨?_, bv6, hout _ _ I6, Xend _ _ Y6, b6⟩
  rw [decide_eq_false (fun h => by rw [hb] at h; cases h.1)]
  rfl
 | false =>
  rw [hb] at gr6
  simp (maxDischargeDepth := 8) only [sA, sM, zc, Cells.get, getN, ldA, foot, DS.read, Cells.take, Nat.reduceLT, gr6, gA6, gB6, wA6]
  have hhid : ∀ k, hidden [⟨[s.next + 1], T6.next, T6.next⟩, ⟨[], T6.next, T6.next⟩, ⟨[], T6.next, T6.next⟩, ⟨[], T6.next, T6.next⟩, ⟨[r], T6.next, S6.next⟩, ⟨[], S6.next, S6.next⟩, ⟨[], S6.next, S6.next⟩, ⟨[s.next + 1], S6.next, S6.next⟩] [0] k = false ∨ k = s.next + 1 := fun k => by
   by_cases h : k = s.next + 1
   · exact .inr h
   · exact .inl (by (simp only [hidden, shielded, noteAt, zM, Bool.or_false, Bool.or_eq_false_iff, Bool.and_eq_false_iff, Ze, Zm, Zn, true_and, and_true, true_or, or_true] <;> omega))
  refine W.masked (hR.fr _) (Cu hR.fMay hR.iMay (d := d + 3) (Yq G6 fun k hk => ?_) ⟨y0, y1, y2, y3, y4, y5⟩) ?_
  · have hk : S6.next ≤ k := hk
    have := DS.get_lt' gB6
    exact ⟨by (simp only [hidden, shielded, noteAt, zM, Bool.or_false, Bool.or_eq_false_iff, Bool.and_eq_false_iff, Ze, Zm, Zn, true_and, and_true, true_or, or_true] <;> omega), by (simp only [hidden, shielded, noteAt, zM, Bool.or_false, Bool.or_eq_false_iff, Bool.and_eq_false_iff, Ze, Zm, Zn, true_and, and_true, true_or, or_true] <;> omega)⟩
  rintro v7 s7 ⟨h7, X7⟩ df
  simp only at h7 X7
  subst h7
  have X7' := Ext.unmask' X7 df
  obtain ⟨S7, hS7⟩ : ∃ S7 : DS, S7 = Zg S6 s7 := ⟨_, rfl⟩
  have n7 : s7.next = S7.next := by rw [hS7]; rfl
  rw [← hS7] at X7'
  have gA7 := X7'.keep gA6 (by simp)
  have wA7 := X7'.wrs wA6
  have Y7 := Y6.trans' (X7'.weaken (by simp))
  have I7 := I6.keep X7' (by simp) (by simp)
  simp (maxDischargeDepth := 8) only [sA, sM, zc, zk, za, zf, Cells.get, getN, Nat.reduceAdd, zh, zg, DS.wrC, Cells.size, Cells.fillFrom, Cells.set, zt, foot, DS.read, Cells.take, Nat.reduceLT, ← hS7, n7, gA7, wA7]
  refine hQ _ ⟨?_, bv6, hout _ _ I7, Xend _ _ Y7, b6⟩
  rw [show decide (x6.2 = false ∧ ZQ (Vw ((((y0, y1), y2), (y3, (y4, y5))), x6).1)) = decide (ZQ ⟨y0, y1, y2, y3, y4, y5⟩) from decide_eq_decide.2 ⟨fun h => h.2, fun h => ⟨hb, h⟩⟩]
  rfl
end
end Go.Dx.TbA
