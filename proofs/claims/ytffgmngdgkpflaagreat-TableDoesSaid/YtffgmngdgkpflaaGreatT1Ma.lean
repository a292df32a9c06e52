/- A part. -/
import Derived.Test.YtffgmngdgkpflaaGreatT1Ka
import Derived.Test.YtffgmngdgkpflaaGreatDxCln
import Derived.Test.YtffgmngdgkpflaaGreatDxFv
import Derived.Test.YtffgmngdgkpflaaGreatU1Bl
import Derived.Test.YtffgmngdgkpflaaGreatU1Ga
set_option linter.unusedVariables false
set_option linter.unusedSimpArgs false
set_option linter.unusedSectionVars false
set_option maxRecDepth 100000
set_option maxHeartbeats 4000000
namespace Go.Dx.TbA
open Go Go.Dx Go.Dx.Tab Go.Proofs.YtffgmngdgkpflaaGreat
section
variable {E : Env} (hT : Jx E) {s s' : DS} {d : Nat} {t m clock : Nat} {M : TRs}
include hT
theorem Qf (c : TabAt s t m M clock) (hG : s.Good) (k n : Int) : W (dcall E (d + 5) (.func (.func 11) #[] #[]) [.pointer (some ⟨t, 0, none⟩), .int .i64 k, .int .i64 n] s) fun r => r.1 = .int .i64 (Zf (Go.Dx.Tab.rowOf M k) k n) ∧ (∃ M' clock', TabAt r.2 t m M' clock' ∧ (Zn M clock → Zn M' clock') ∧ Dv M M' (decide (Zf (Go.Dx.Tab.rowOf M k) k n = 0)) ⟨k, n, false, Rp.zero⟩) ∧ Ext [m] s r.2 := by
 have go := c.go
 have gm := c.gm
 have hol := DS.get_lt' go
 have hml := DS.get_lt' gm
 have hmade := YS hT c.go (d := d + 3)
 refine zr fun Q hQ => ?_
 rw [zh hT.iBegin hT.fBegin rfl]
 have XN : ∀ ob ob2, Ext [] s ((s.new ob).upd s.next ob2) := fun ob ob2 => (Ext.new (F := [])).trans (Ext.upd (F := [s.next]) (.inl (by simp))) (by simp)
 have hsame : ∀ e : Int, e ≠ 0 → ∀ y, Dv M M (decide (e = 0)) y := fun e he y k => by
  have : decide (e = 0) = false := decide_eq_false he
  rw [this]; simp
 rcases Ws M k 0 with ⟨hf, hr, happ⟩ | ⟨j, x, hf, hj, hr, hset⟩
 · simp (maxDischargeDepth := 8) only [sA, sM, zb, zo, Cells.get, getN, Nat.reduceAdd, allOne, ze, DS.wrC, Cells.size, Cells.fillFrom, Cells.set, zk, pp, pv, pw, pg, Nat.reduceLT, d11, go, gm, hmade, hf, isKey, hG, hol, hml]
   have X1 := XN (.cells (.list [.int .i64 0, .bool false, .int .i64 0, .int .i64 0, .bool false, .int .i64 0, .int .i64 0, .int .i64 0]) false) (.cells (.list [.int .i64 0, .bool false, .int .i64 0, .int .i64 0, .bool false, .int .i64 0, .int .i64 0, .int .i64 0]) false)
   refine W.mono (FX hT (d := d) (X1.good hG) k n) ?_
   rintro ⟨v2, s2⟩ ⟨h2, X2⟩
   simp only at h2 X2
   subst h2
   have X12 := X1.trans' X2
   have c2 := c.keep X12 (by simp) (by simp)
   have go2 := c2.go
   have gm2 := c2.gm
   have wm2 := c2.wm
   by_cases hw : Who k n
   · have he : Zf (Go.Dx.Tab.rowOf M k) k n = 0 := by unfold Zf; rw [if_pos hw, hr]
     rw [he] at hQ
     rw [decide_eq_true hw]
     simp only [sA, zb, zn, Nat.reduceEqDiff, za, zd, Cells.get, getN, Nat.reduceAdd, Nat.reduceLeDiff, reduceCtorEq, zg, go2, gm2, wm2, isKey, hf]
     refine hQ _ ⟨rfl, ⟨M ++ [(⟨k, n, false, Rp.zero⟩, clock)], clock + 1, ?_, fun h => h.app hr (⟨hw, (fun e => nomatch e), (fun _ => rfl)⟩), fun k' => ?_⟩, (X12.weaken (by simp)).trans' (Ext.upd (.inl (by simp)))⟩
     · have := JZ c2 (M ++ [(⟨k, n, false, Rp.zero⟩, clock)]) (clock + 1)
       rw [← TY] at this
       exact this
     · rw [happ _ clock rfl k']; simp
   · have he : Zf (Go.Dx.Tab.rowOf M k) k n = 1 := by unfold Zf; rw [if_neg hw]
     rw [he] at hQ
     rw [decide_eq_false hw]
     simp only [sA, zb, za, zd]
     exact hQ _ ⟨rfl, ⟨M, clock, c2, id, hsame 1 (by decide) _⟩, X12.weaken (by simp)⟩
 · have hv : (trE x).val = .agg ⟨[.int .i64 x.1.num, .bool x.1.done, .int .i64 x.1.rep.c, .int .i64 x.1.rep.n, .bool x.1.rep.rej, .int .i64 x.1.rep.trap, .int .i64 x.1.rep.v, .int .i64 x.1.rep.gas]⟩ := rfl
   simp (maxDischargeDepth := 8) only [sA, sM, zb, zo, Cells.get, getN, Nat.reduceAdd, allOne, ze, DS.wrC, Cells.size, Cells.fillFrom, Cells.set, zk, pp, pv, pw, pg, Nat.reduceLT, d11, go, gm, hmade, hf, hv, isKey, hG, hol, hml]
   have X1 := XN (.cells (.list [.int .i64 0, .bool false, .int .i64 0, .int .i64 0, .bool false, .int .i64 0, .int .i64 0, .int .i64 0]) false) (.cells (.list [.int .i64 x.1.num, .bool x.1.done, .int .i64 x.1.rep.c, .int .i64 x.1.rep.n, .bool x.1.rep.rej, .int .i64 x.1.rep.trap, .int .i64 x.1.rep.v, .int .i64 x.1.rep.gas]) false)
   refine W.mono (FX hT (d := d) (X1.good hG) k n) ?_
   rintro ⟨v2, s2⟩ ⟨h2, X2⟩
   simp only at h2 X2
   subst h2
   have g7 := X2.keep (show ((s.new (.cells (.list [.int .i64 0, .bool false, .int .i64 0, .int .i64 0, .bool false, .int .i64 0, .int .i64 0, .int .i64 0]) false)).upd s.next (.cells (.list [.int .i64 x.1.num, .bool x.1.done, .int .i64 x.1.rep.c, .int .i64 x.1.rep.n, .bool x.1.rep.rej, .int .i64 x.1.rep.trap, .int .i64 x.1.rep.v, .int .i64 x.1.rep.gas]) false)).get s.next = some _ by simp (maxDischargeDepth := 8) only [sA, zR, hG]; rfl) (by simp)
   have X12 := X1.trans' X2
   have c2 := c.keep X12 (by simp) (by simp)
   have go2 := c2.go
   have gm2 := c2.gm
   have wm2 := c2.wm
   by_cases hw : Who k n
   · rw [decide_eq_true hw]
     by_cases h3 : n < x.1.num
     · have he : Zf (Go.Dx.Tab.rowOf M k) k n = 210 := by unfold Zf; rw [if_pos hw, hr]; simp [h3]
       rw [he] at hQ
       simp only [sA, zb, zl, zm, Nat.reduceEqDiff, za, zd, Cells.get, getN, g7, h3]
       exact hQ _ ⟨rfl, ⟨M, clock, c2, id, hsame 210 (by decide) _⟩, X12.weaken (by simp)⟩
     · by_cases h4 : n = x.1.num
       · have h4' : (n = x.1.num) = True := eq_true h4
         have he : Zf (Go.Dx.Tab.rowOf M k) k n = 5 := by unfold Zf; rw [if_pos hw, hr]; simp [h4]
         rw [he] at hQ
         simp only [sA, zb, zl, zm, Nat.reduceEqDiff, za, zd, Cells.get, getN, g7, h3, h4']
         exact hQ _ ⟨rfl, ⟨M, clock, c2, id, hsame 5 (by decide) _⟩, X12.weaken (by simp)⟩
       · have he : Zf (Go.Dx.Tab.rowOf M k) k n = 0 := by unfold Zf; rw [if_pos hw, hr]; simp [h3, h4]
         rw [he] at hQ
         obtain ⟨hs1, hs2⟩ := hset ⟨k, n, false, Rp.zero⟩ rfl
         simp only [sA, zb, zl, zm, zn, Nat.reduceEqDiff, za, zd, Cells.get, getN, Nat.reduceAdd, Nat.reduceLeDiff, reduceCtorEq, zg, g7, h3, h4, go2, gm2, wm2, isKey, hf]
         refine hQ _ ⟨rfl, ⟨M.set j (⟨k, n, false, Rp.zero⟩, x.2), clock, ?_, fun h => h.set hj (Yy hr).symm (⟨hw, (fun e => nomatch e), (fun _ => rfl)⟩), fun k' => ?_⟩, (X12.weaken (by simp)).trans' (Ext.upd (.inl (by simp)))⟩
         · have := JZ c2 (M.set j (⟨k, n, false, Rp.zero⟩, x.2)) clock
           rw [← hs1] at this
           exact this
         · rw [hs2 k']; simp
   · have he : Zf (Go.Dx.Tab.rowOf M k) k n = 1 := by unfold Zf; rw [if_neg hw]
     rw [he] at hQ
     rw [decide_eq_false hw]
     simp only [sA, zb, za, zd]
     exact hQ _ ⟨rfl, ⟨M, clock, c2, id, hsame 1 (by decide) _⟩, X12.weaken (by simp)⟩
theorem Ti (hcode : E.fn 15 = some d15) (hintr : E.intr 15 = none) (hM : Zn M clock) (c : TabAt s t m M clock) (hG : s.Good) (k : Int) :
 W (dcall E (d + 2) (.func (.func 15) #[] #[]) [.pointer (some ⟨t, 0, none⟩), .int .i64 k] s) fun r => r.1 = .tuple #[] ∧ (∃ M', TabAt r.2 t m M' clock ∧ Zn M' clock ∧ ∀ k', Go.Dx.Tab.rowOf M' k' = if k' = k ∧ ((Go.Dx.Tab.rowOf M k).map (·.done)).getD false = false then none else Go.Dx.Tab.rowOf M k') ∧ Ext [m] s r.2 := by
 have go := c.go
 have gm := c.gm
 have wm := c.wm
 have hol := DS.get_lt' go
 have hml := DS.get_lt' gm
 have hmade := YS hT c.go (d := d)
 refine zr fun Q hQ => ?_
 rw [zh hintr hcode rfl]
 rcases Ws M k 0 with ⟨hf, hr, _⟩ | ⟨j, x, hf, hj, hr, _⟩
 · simp (maxDischargeDepth := 8) only [sA, sM, zb, zo, zn, za, zd, Cells.get, getN, pp, pv, pw, pg, Nat.reduceLT, d15, go, gm, wm, hmade, hf, isKey, zb, partOf, getN]
   refine hQ _ ⟨rfl, ⟨M, JZ c M clock, hM, fun k' => ?_⟩, Ext.upd (.inl (by simp))⟩
   by_cases e : k' = k
   · subst e
     rw [hr]
     simp
   · rw [if_neg (fun h => e h.1)]
 · have hv : (trE x).val = .agg ⟨[.int .i64 x.1.num, .bool x.1.done, .int .i64 x.1.rep.c, .int .i64 x.1.rep.n, .bool x.1.rep.rej, .int .i64 x.1.rep.trap, .int .i64 x.1.rep.v, .int .i64 x.1.rep.gas]⟩ := rfl
   cases hd : x.1.done with
   | true =>
    rw [hd] at hv
    simp (maxDischargeDepth := 8) only [sA, sM, zb, zo, za, zd, Cells.get, getN, pp, pv, pw, pg, Nat.reduceLT, d15, go, gm, wm, hmade, hf, hv, isKey, zb, partOf, getN]
    refine hQ _ ⟨rfl, ⟨M, c, hM, fun k' => ?_⟩, .refl⟩
    rw [if_neg (fun h => by have h2 := h.2; rw [hr] at h2; simp [hd] at h2)]
   | false =>
    rw [hd] at hv
    simp (maxDischargeDepth := 8) only [sA, sM, zb, zo, zn, za, zd, Cells.get, getN, pp, pv, pw, pg, Nat.reduceLT, d15, go, gm, wm, hmade, hf, hv, isKey, zb, partOf, getN, DF]
    refine hQ _ ⟨rfl, ⟨M.eraseIdx j, JZ c _ clock, hM.drop j, fun k' => ?_⟩, Ext.upd (.inl (by simp))⟩
    rw [VP hM.keys hj, Yy hr, hr]
    simp [hd]
end
section
variable {E : Env} (hC : QE E) (hT : Jx E) (hE : Dy E) {s s' : DS} {d : Nat} {t m clock : Nat} {M : TRs}
include hC hT hE
theorem QL (c : TabAt s t m M clock) (hG : s.Good) (r : Rp) : W (dcall E (d + 10) (.func (.func 13) #[] #[]) [.pointer (some ⟨t, 0, none⟩), .agg ⟨r.cells⟩] s) fun x => x.1 = .int .i64 (z6 (Go.Dx.Tab.rowOf M r.c) r) ∧ (∃ M' clock', TabAt x.2 t m M' clock' ∧ (Zn M clock → Zn M' clock') ∧ Dv M M' (decide (z6 (Go.Dx.Tab.rowOf M r.c) r = 0)) ⟨r.c, r.n, true, r⟩) ∧ Ext [m] s x.2 := by
 have hol := DS.get_lt' c.go
 have hml := DS.get_lt' c.gm
 refine zr fun Q hQ => ?_
 rw [zh hT.iFinish hT.fFinish rfl]
 have hmade := YS hT (c.keep (F := []) (Ext.new (o := .cells (.list [.int .i64 r.c, .int .i64 r.n, .bool r.rej, .int .i64 r.trap, .int .i64 r.v, .int .i64 r.gas]) false)) (by simp) (by simp)).go (d := d + 8)
 simp (maxDischargeDepth := 8) only [sA, sM, zb, Cells.get, getN, pp, pv, pg, ldA, DS.read, Cells.take, Nat.reduceLT, d13, hG, Rp.cells, hmade]
 obtain ⟨S0, hS0⟩ : ∃ S0 : DS, S0 = s.new (.cells (.list [.int .i64 r.c, .int .i64 r.n, .bool r.rej, .int .i64 r.trap, .int .i64 r.v, .int .i64 r.gas]) false) := ⟨_, rfl⟩
 rw [← hS0]
 have X0 : Ext [] s S0 := by rw [hS0]; exact Ext.new
 have hG0 := X0.good hG
 have g0 : S0.get s.next = some (.cells (.list [.int .i64 r.c, .int .i64 r.n, .bool r.rej, .int .i64 r.trap, .int .i64 r.v, .int .i64 r.gas]) false) := by rw [hS0]; simp (maxDischargeDepth := 8) only [zR, hG]
 clear hS0 hmade
 refine W.mono (RP hC hT hE (d := d) hG0 r) ?_
 rintro ⟨v1, s1⟩ ⟨⟨w, h1⟩, X1⟩
 simp only at h1 X1
 subst h1
 have X01 := X0.trans' X1
 have hG1 := X01.good hG
 have g1 := X1.keep g0 (by simp)
 have hl1 : s.next < s1.next := DS.get_lt' g1
 have c1 := c.keep X01 (by simp) (by simp)
 have go := c1.go
 have gm := c1.gm
 have wm := c1.wm
 have hol1 := DS.get_lt' go
 have hml1 := DS.get_lt' gm
 have hsame : ∀ e : Int, e ≠ 0 → ∀ y, Dv M M (decide (e = 0)) y := fun e he y k => by
  have : decide (e = 0) = false := decide_eq_false he
  rw [this]; simp
 have XN : ∀ ob ob2, Ext [] s1 ((s1.new ob).upd s1.next ob2) := fun ob ob2 => (Ext.new (F := [])).trans (Ext.upd (F := [s1.next]) (.inl (by simp))) (by simp)
 by_cases hmay : ZR r
 · rw [if_pos hmay]
   rcases Ws M r.c 0 with ⟨hf, hr, happ⟩ | ⟨j, x, hf, hj, hr, hset⟩
   · have he : z6 (Go.Dx.Tab.rowOf M r.c) r = 4 := by unfold z6; rw [if_pos hmay, hr]
     rw [he] at hQ
     simp (maxDischargeDepth := 8) only [sA, sM, zb, zl, zm, zo, za, zd, Cells.get, getN, Nat.reduceAdd, allOne, ze, DS.wrC, Cells.size, Cells.fillFrom, Cells.set, zk, Nat.reduceLT, hG1, g1, hl1, go, gm, hol1, hml1, isKey, hf]
     exact hQ _ ⟨rfl, ⟨M, clock, c1.keep (XN _ _) (by simp) (by simp), id, hsame 4 (by decide) _⟩, (X01.trans' (XN _ _)).weaken (by simp)⟩
   · have hv : (trE x).val = .agg ⟨[.int .i64 x.1.num, .bool x.1.done, .int .i64 x.1.rep.c, .int .i64 x.1.rep.n, .bool x.1.rep.rej, .int .i64 x.1.rep.trap, .int .i64 x.1.rep.v, .int .i64 x.1.rep.gas]⟩ := rfl
     by_cases hn : x.1.num = r.n
     · have hn' : (x.1.num = r.n) = True := eq_true hn
       cases hd : x.1.done with
       | true =>
        have he : z6 (Go.Dx.Tab.rowOf M r.c) r = 5 := by unfold z6; rw [if_pos hmay, hr]; simp [hn, hd]
        rw [he] at hQ
        rw [hd] at hv
        simp (maxDischargeDepth := 8) only [sA, sM, zb, zl, zm, zo, za, zd, Cells.get, getN, Nat.reduceAdd, allOne, ze, DS.wrC, Cells.size, Cells.fillFrom, Cells.set, zk, Nat.reduceLT, hG1, g1, hl1, go, gm, hol1, hml1, isKey, hf, hv, hn']
        exact hQ _ ⟨rfl, ⟨M, clock, c1.keep (XN _ _) (by simp) (by simp), id, hsame 5 (by decide) _⟩, (X01.trans' (XN _ _)).weaken (by simp)⟩
       | false =>
        have he : z6 (Go.Dx.Tab.rowOf M r.c) r = 0 := by unfold z6; rw [if_pos hmay, hr]; simp [hn, hd]
        rw [he] at hQ
        rw [hd] at hv
        obtain ⟨hs1, hs2⟩ := hset ⟨r.c, r.n, true, r⟩ rfl
        simp (maxDischargeDepth := 8) only [sA, sM, zb, zl, zm, zo, zn, za, zd, Cells.get, getN, Nat.reduceAdd, allOne, ze, Nat.reduceLeDiff, DS.wrC, Cells.size, Cells.fillFrom, Cells.set, zk, zg, ldA, DS.read, Cells.take, Nat.reduceLT, hG1, g1, hl1, go, gm, hol1, hml1, isKey, hf, hv, hn', wm]
        have c2 := c1.keep (XN (.cells (.list [.int .i64 0, .bool false, .int .i64 0, .int .i64 0, .bool false, .int .i64 0, .int .i64 0, .int .i64 0]) false) (.cells (.list [.int .i64 x.1.num, .bool false, .int .i64 x.1.rep.c, .int .i64 x.1.rep.n, .bool x.1.rep.rej, .int .i64 x.1.rep.trap, .int .i64 x.1.rep.v, .int .i64 x.1.rep.gas]) false)) (by simp) (by simp)
        refine hQ _ ⟨rfl, ⟨M.set j (⟨r.c, r.n, true, r⟩, x.2), clock, ?_, fun h => h.set hj (Yy hr).symm (⟨hmay.2.1, (fun _ => ⟨hmay, rfl, rfl⟩), (fun e => nomatch e)⟩), fun k' => ?_⟩, ((X01.trans' (XN _ _)).weaken (by simp)).trans' (Ext.upd (.inl (by simp)))⟩
        · have := JZ c2 (M.set j (⟨r.c, r.n, true, r⟩, x.2)) clock
          rw [← hs1] at this
          exact this
        · rw [hs2 k']; simp
     · have he : z6 (Go.Dx.Tab.rowOf M r.c) r = 4 := by unfold z6; rw [if_pos hmay, hr]; simp [hn]
       rw [he] at hQ
       simp (maxDischargeDepth := 8) only [sA, sM, zb, zl, zm, zo, za, zd, Cells.get, getN, Nat.reduceAdd, allOne, ze, DS.wrC, Cells.size, Cells.fillFrom, Cells.set, zk, Nat.reduceLT, hG1, g1, hl1, go, gm, hol1, hml1, isKey, hf, hv, hn]
       exact hQ _ ⟨rfl, ⟨M, clock, c1.keep (XN _ _) (by simp) (by simp), id, hsame 4 (by decide) _⟩, (X01.trans' (XN _ _)).weaken (by simp)⟩
 · rw [if_neg hmay]
   have he : z6 (Go.Dx.Tab.rowOf M r.c) r = 1 := by unfold z6; rw [if_neg hmay]
   rw [he] at hQ
   simp only [sA, zb, zl, zm, Nat.reduceEqDiff, za, zd, getN, Int.reduceEq]
   exact hQ _ ⟨rfl, ⟨M, clock, c1, id, hsame 1 (by decide) _⟩, X01.weaken (by simp)⟩
end
end Go.Dx.TbA
namespace Go.Dx.TbA
open Go Go.Dx Go.Dx.Tab Go.Proofs.YtffgmngdgkpflaaGreat
theorem To {A B : Int → Option TR} (h : ∀ i : Nat, i < 64 → A (i : Int) = B (i : Int)) : Ql A = Ql B := by
 unfold Ql Tn
 congr 1
 refine List.map_congr_left fun i hi => ?_
 rw [h i (List.mem_range.1 hi)]
theorem ZY.to {s : DS} {q : Nat} {A B : Int → Option TR} (c : ZY s q A) (h : ∀ i : Nat, i < 64 → A (i : Int) = B (i : Int)) : ZY s q B := ⟨by rw [← To h]; exact c.gq, c.wq⟩
theorem ZY.put {s : DS} {q : Nat} {A : Int → Option TR} (c : ZY s q A) {i : Nat} (hi : i < 64) (y : Option TR) {l : List Value} (hl : l = Ql fun k => if k = (i : Int) then y else A k) : ZY (s.upd q (.cells (.list l) false)) q (fun k => if k = (i : Int) then y else A k) :=
 ⟨by rw [DS.upd_get_self, c.gq, hl]; rfl, by rw [DS.upd_wr]; exact c.wq⟩
theorem Sf {s : DS} {q : Nat} {A : Int → Option TR} (c : ZY s q A) {i : Nat} (hi : i < 64) : ldA 9 (.pointer (some ⟨q, i * 9, none⟩)) s = some (.agg ⟨rrC (A (i : Int))⟩) := by
 have := KG A hi (j := 0) (n := 9) (by omega)
 simp only [ldA, DS.read, c.gq]
 rw [Nat.add_zero] at this
 rw [this, List.drop_zero, List.take_of_length_le (by rw [Qi]; exact Nat.le_refl _)]
def WS (A : Int → Option TR) (b : Bool) (y : TR) : Int → Option TR := fun k => if b = true ∧ k = y.key then some y else A k
section
variable {E : Env} (hR : TV E) {s : DS} {d q : Nat} {A : Int → Option TR}
include hR
theorem RC (hcode : E.fn 12 = some d12) (hintr : E.intr 12 = none) (c : ZY s q A) (hG : s.Good) (k n : Int) :
 W (dcall E (d + 3) (.func (.func 12) #[] #[]) [.pointer (some ⟨q, 0, none⟩), .int .i64 k, .int .i64 n] s) fun r => r.1 = .int .i64 (Zf (A k) k n) ∧ ZY r.2 q (WS A (decide (Zf (A k) k n = 0)) ⟨k, n, false, Rp.zero⟩) ∧ Ext [q] s r.2 := by
 have hql := DS.get_lt' c.gq
 refine zr fun Q hQ => ?_
 rw [zh hintr hcode rfl]
 simp only [sA, Nat.reduceEqDiff, pp, pv, pw, pg, d12]
 refine W.mono (Mu hR (d := d) hG k n) ?_
 rintro ⟨v1, s1⟩ ⟨h1, X1⟩
 simp only at h1 X1
 subst h1
 have c1 := c.keep X1 (by simp)
 have G1 := X1.good hG
 have same : ∀ (e : Int) (y : TR), e ≠ 0 → WS A (decide (e = 0)) y = A := fun e y he => by
  funext k
  unfold WS
  rw [decide_eq_false he]
  simp
 by_cases hw : Who k n
 case neg =>
  have he : Zf (A k) k n = 1 := by unfold Zf; rw [if_neg hw]
  rw [decide_eq_false hw]
  rw [he, same 1 _ (by decide)] at hQ
  simp only [sA, zb, za, zd]
  exact hQ _ ⟨rfl, c1, X1.weaken (by simp)⟩
 rw [decide_eq_true hw]
 obtain ⟨ci, rfl⟩ : ∃ ci : Nat, k = (ci : Int) := ⟨k.toNat, (Int.toNat_of_nonneg hw.1).symm⟩
 have hci : ci < 64 := by have := hw.2.1; omega
 have hld := Sf c1 hci
 have gq1 := c1.gq
 have wq1 := c1.wq
 have hle9 : (ci * 9 + 9 ≤ 576) = True := eq_true (by omega)
 have hq1 := DS.get_lt' gq1
 have XN : ∀ o1 o2, Ext [] s1 ((s1.new o1).upd s1.next o2) := fun o1 o2 => (Ext.new (F := [])).trans (Ext.upd (F := [s1.next]) (.inl (by simp))) (by simp)
 have hfill : (zk (zk (zk (zk (zk (zk (zk (zk (zk (Ql A) (ci * 9) (.bool true)) (ci * 9 + 1) (.int .i64 n)) (ci * 9 + 2) (.bool false)) (ci * 9 + 3) (.int .i64 0)) (ci * 9 + 4) (.int .i64 0)) (ci * 9 + 5) (.bool false)) (ci * 9 + 6) (.int .i64 0)) (ci * 9 + 7) (.int .i64 0)) (ci * 9 + 8) (.int .i64 0)) = Ql (fun k => if k = (ci : Int) then some ⟨(ci : Int), n, false, Rp.zero⟩ else A k) := Cells.list.inj (VW A hci (some ⟨(ci : Int), n, false, Rp.zero⟩))
 have cut : ∀ L : List Value, ∃ S2 : DS, S2 = (s1.new (.cells (.list [.bool false, .int .i64 0, .bool false, .int .i64 0, .int .i64 0, .bool false, .int .i64 0, .int .i64 0, .int .i64 0]) false)).upd s1.next (.cells (.list L) false) ∧ S2.get s1.next = some (.cells (.list L) false) ∧ ZY S2 q A ∧ Ext [] s S2 := fun L => ⟨_, rfl, by rw [DS.upd_get_self, DS.new_get_self G1]; rfl, c1.keep (XN _ _) (by simp), X1.trans' (XN _ _)⟩
 cases hA : A (ci : Int) with
 | none =>
  have he : Zf (A (ci : Int)) (ci : Int) n = 0 := by unfold Zf; rw [if_pos hw, hA]
  rw [he] at hQ
  rw [hA] at hld
  simp only [rrC] at hld
  obtain ⟨S2, hS2, g2, c2, X2⟩ := cut [.bool false, .int .i64 0, .bool false, .int .i64 0, .int .i64 0, .bool false, .int .i64 0, .int .i64 0, .int .i64 0]
  have gq2 := c2.gq
  have wq2 := c2.wq
  simp (maxDischargeDepth := 8) only [sA, sM, zb, za, zd, Cells.get, getN, Nat.reduceAdd, allOne, ze, Nat.reduceLeDiff, DS.wrC, Cells.size, Cells.fillFrom, Cells.set, zk, zg, Nat.reduceLT, hci, hld, G1, ← hS2, g2, gq2, wq2, QW, hle9, hfill]
  refine hQ _ ⟨rfl, (c2.put hci (some ⟨(ci : Int), n, false, Rp.zero⟩) rfl).to fun i hi => ?_, (X2.weaken (by simp)).trans' (Ext.upd (.inl (by simp)))⟩
  simp [WS]
 | some x =>
  rw [hA] at hld
  simp only [rrC, Rp.cells] at hld
  obtain ⟨S2, hS2, g2, c2, X2⟩ := cut [.bool true, .int .i64 x.num, .bool x.done, .int .i64 x.rep.c, .int .i64 x.rep.n, .bool x.rep.rej, .int .i64 x.rep.trap, .int .i64 x.rep.v, .int .i64 x.rep.gas]
  have gq2 := c2.gq
  have wq2 := c2.wq
  by_cases h3 : n < x.num
  · have he : Zf (A (ci : Int)) (ci : Int) n = 210 := by unfold Zf; rw [if_pos hw, hA]; simp [h3]
    rw [he, same 210 _ (by decide)] at hQ
    simp (maxDischargeDepth := 8) only [sA, sM, zb, zl, zm, za, zd, Cells.get, getN, Nat.reduceAdd, allOne, ze, DS.wrC, Cells.size, Cells.fillFrom, Cells.set, zk, Nat.reduceLT, hci, hld, G1, ← hS2, g2, gq2, wq2, h3]
    exact hQ _ ⟨rfl, c2, X2.weaken (by simp)⟩
  · by_cases h4 : n = x.num
    · have h4' : (n = x.num) = True := eq_true h4
      have he : Zf (A (ci : Int)) (ci : Int) n = 5 := by unfold Zf; rw [if_pos hw, hA]; simp [h4]
      rw [he, same 5 _ (by decide)] at hQ
      simp (maxDischargeDepth := 8) only [sA, sM, zb, zl, zm, za, zd, Cells.get, getN, Nat.reduceAdd, allOne, ze, DS.wrC, Cells.size, Cells.fillFrom, Cells.set, zk, Nat.reduceLT, hci, hld, G1, ← hS2, g2, gq2, wq2, h3, h4']
      exact hQ _ ⟨rfl, c2, X2.weaken (by simp)⟩
    · have he : Zf (A (ci : Int)) (ci : Int) n = 0 := by unfold Zf; rw [if_pos hw, hA]; simp [h3, h4]
      rw [he] at hQ
      simp (maxDischargeDepth := 8) only [sA, sM, zb, zl, zm, za, zd, Cells.get, getN, Nat.reduceAdd, allOne, ze, Nat.reduceLeDiff, DS.wrC, Cells.size, Cells.fillFrom, Cells.set, zk, zg, Nat.reduceLT, hci, hld, G1, ← hS2, g2, gq2, wq2, h3, h4, QW, hle9, hfill]
      refine hQ _ ⟨rfl, (c2.put hci (some ⟨(ci : Int), n, false, Rp.zero⟩) rfl).to fun i hi => ?_, (X2.weaken (by simp)).trans' (Ext.upd (.inl (by simp)))⟩
      simp [WS]
theorem Tm (hcode : E.fn 14 = some d14) (hintr : E.intr 14 = none) (c : ZY s q A) (hG : s.Good) (r : Rp) :
 W (dcall E (d + 3) (.func (.func 14) #[] #[]) [.pointer (some ⟨q, 0, none⟩), .agg ⟨r.cells⟩] s) fun p => p.1 = .int .i64 (z6 (A r.c) r) ∧ ZY p.2 q (WS A (decide (z6 (A r.c) r = 0)) ⟨r.c, r.n, true, r⟩) ∧ Ext [q] s p.2 := by
 have hql := DS.get_lt' c.gq
 refine zr fun Q hQ => ?_
 rw [zh hintr hcode rfl]
 obtain ⟨S0, hS0⟩ : ∃ S0 : DS, S0 = s.new (.cells (.list [.int .i64 r.c, .int .i64 r.n, .bool r.rej, .int .i64 r.trap, .int .i64 r.v, .int .i64 r.gas]) false) := ⟨_, rfl⟩
 have X0 : Ext [] s S0 := by rw [hS0]; exact Ext.new
 have g0 : S0.get s.next = some (.cells (.list [.int .i64 r.c, .int .i64 r.n, .bool r.rej, .int .i64 r.trap, .int .i64 r.v, .int .i64 r.gas]) false) := by rw [hS0]; exact DS.new_get_self hG
 have hl0 : ldA 6 (.pointer (some ⟨s.next, 0, none⟩)) S0 = some (.agg ⟨r.cells⟩) := by
  simp only [ldA, DS.read, g0]
  rfl
 have hrc : r.cells = [.int .i64 r.c, .int .i64 r.n, .bool r.rej, .int .i64 r.trap, .int .i64 r.v, .int .i64 r.gas] := rfl
 simp (maxDischargeDepth := 8) only [sA, sM, pp, pv, pg, d14, hrc, ← hS0]
 rw [hrc] at hl0
 simp (maxDischargeDepth := 8) only [sA, hl0]
 refine W.mono (Fm hR.fMay hR.iMay (d := d + 1) (X0.good hG) r) ?_
 rintro ⟨v1, s1⟩ ⟨h1, X01⟩
 simp only at h1 X01
 subst h1
 have X1 := X0.trans' X01
 have c1 := c.keep X1 (by simp)
 have G1 := X1.good hG
 have g1 := X01.keep g0 (by simp)
 have hs1 := DS.get_lt' g1
 have same : ∀ (e : Int) (y : TR), e ≠ 0 → WS A (decide (e = 0)) y = A := fun e y he => by
  funext k
  unfold WS
  rw [decide_eq_false he]
  simp
 by_cases hm : ZR r
 case neg =>
  have he : z6 (A r.c) r = 1 := by unfold z6; rw [if_neg hm]
  rw [decide_eq_false hm]
  rw [he, same 1 _ (by decide)] at hQ
  simp only [sA, zb, za, zd]
  exact hQ _ ⟨rfl, c1, X1.weaken (by simp)⟩
 rw [decide_eq_true hm]
 have hw := hm.2.1
 obtain ⟨ci, hc⟩ : ∃ ci : Nat, r.c = (ci : Int) := ⟨r.c.toNat, (Int.toNat_of_nonneg hw.1).symm⟩
 have hci : ci < 64 := by have := hw.2.1; omega
 have hld := Sf c1 hci
 have hle9 : (ci * 9 + 9 ≤ 576) = True := eq_true (by omega)
 have XN : ∀ o1 o2, Ext [] s1 ((s1.new o1).upd s1.next o2) := fun o1 o2 => (Ext.new (F := [])).trans (Ext.upd (F := [s1.next]) (.inl (by simp))) (by simp)
 have cut : ∀ L : List Value, ∃ S2 : DS, S2 = (s1.new (.cells (.list [.bool false, .int .i64 0, .bool false, .int .i64 0, .int .i64 0, .bool false, .int .i64 0, .int .i64 0, .int .i64 0]) false)).upd s1.next (.cells (.list L) false) ∧ S2.get s1.next = some (.cells (.list L) false) ∧ S2.get s.next = some (.cells (.list [.int .i64 r.c, .int .i64 r.n, .bool r.rej, .int .i64 r.trap, .int .i64 r.v, .int .i64 r.gas]) false) ∧ ZY S2 q A ∧ Ext [] s S2 := fun L => ⟨_, rfl, by rw [DS.upd_get_self, DS.new_get_self G1]; rfl, (XN _ _).keep g1 (by simp), c1.keep (XN _ _) (by simp), X1.trans' (XN _ _)⟩
 rw [hc] at hQ
 cases hA : A (ci : Int) with
 | none =>
  have he : z6 (A (ci : Int)) r = 4 := by unfold z6; rw [if_pos hm, hA]
  rw [he, same 4 _ (by decide)] at hQ
  rw [hA] at hld
  simp only [rrC] at hld
  obtain ⟨S2, hS2, g2, gr2, c2, X2⟩ := cut [.bool false, .int .i64 0, .bool false, .int .i64 0, .int .i64 0, .bool false, .int .i64 0, .int .i64 0, .int .i64 0]
  simp (maxDischargeDepth := 8) only [sA, sM, zb, za, zd, Cells.get, getN, Nat.reduceAdd, allOne, ze, DS.wrC, Cells.size, Cells.fillFrom, Cells.set, zk, Nat.reduceLT, g1, hc, hci, hld, G1, ← hS2, g2]
  exact hQ _ ⟨rfl, c2, X2.weaken (by simp)⟩
 | some x =>
  rw [hA] at hld
  simp only [rrC, Rp.cells] at hld
  obtain ⟨S2, hS2, g2, gr2, c2, X2⟩ := cut [.bool true, .int .i64 x.num, .bool x.done, .int .i64 x.rep.c, .int .i64 x.rep.n, .bool x.rep.rej, .int .i64 x.rep.trap, .int .i64 x.rep.v, .int .i64 x.rep.gas]
  have gq2 := c2.gq
  have wq2 := c2.wq
  by_cases h3 : x.num = r.n
  case neg =>
   have he : z6 (A (ci : Int)) r = 4 := by unfold z6; rw [if_pos hm, hA]; simp [h3]
   rw [he, same 4 _ (by decide)] at hQ
   simp (maxDischargeDepth := 8) only [sA, sM, zb, zl, zm, za, zd, Cells.get, getN, Nat.reduceAdd, allOne, ze, DS.wrC, Cells.size, Cells.fillFrom, Cells.set, zk, Nat.reduceLT, g1, hc, hci, hld, G1, ← hS2, g2, gr2, h3]
   exact hQ _ ⟨rfl, c2, X2.weaken (by simp)⟩
  have h3' : (x.num = r.n) = True := eq_true h3
  cases hd : x.done with
  | true =>
   have he : z6 (A (ci : Int)) r = 5 := by unfold z6; rw [if_pos hm, hA]; simp [h3, hd]
   rw [he, same 5 _ (by decide)] at hQ
   rw [hd] at hS2 g2 hld
   simp (maxDischargeDepth := 8) only [sA, sM, zb, zl, zm, za, zd, Cells.get, getN, Nat.reduceAdd, allOne, ze, DS.wrC, Cells.size, Cells.fillFrom, Cells.set, zk, Nat.reduceLT, g1, hc, hci, hld, G1, ← hS2, g2, gr2, h3']
   exact hQ _ ⟨rfl, c2, X2.weaken (by simp)⟩
  | false =>
   have he : z6 (A (ci : Int)) r = 0 := by unfold z6; rw [if_pos hm, hA]; simp [h3, hd]
   rw [he] at hQ
   rw [hd] at hS2 g2 hld
   have hl2 : ldA 6 (.pointer (some ⟨s.next, 0, none⟩)) S2 = some (.agg ⟨[.int .i64 r.c, .int .i64 r.n, .bool r.rej, .int .i64 r.trap, .int .i64 r.v, .int .i64 r.gas]⟩) := by
    simp only [ldA, DS.read, gr2]
    rfl
   have hfill : (zk (zk (zk (zk (zk (zk (zk (zk (zk (Ql A) (ci * 9) (.bool true)) (ci * 9 + 1) (.int .i64 r.n)) (ci * 9 + 2) (.bool true)) (ci * 9 + 3) (.int .i64 (ci : Int))) (ci * 9 + 4) (.int .i64 r.n)) (ci * 9 + 5) (.bool r.rej)) (ci * 9 + 6) (.int .i64 r.trap)) (ci * 9 + 7) (.int .i64 r.v)) (ci * 9 + 8) (.int .i64 r.gas)) = Ql (fun k => if k = (ci : Int) then some ⟨(ci : Int), r.n, true, r⟩ else A k) := by
    have := Cells.list.inj (VW A hci (some ⟨(ci : Int), r.n, true, r⟩))
    rw [← hc]
    rw [← hc] at this
    exact this
   simp (maxDischargeDepth := 8) only [sA, sM, zb, zl, zm, za, zd, Cells.get, getN, Nat.reduceAdd, allOne, ze, Nat.reduceLeDiff, DS.wrC, Cells.size, Cells.fillFrom, Cells.set, zk, zg, Nat.reduceLT, g1, hc, hci, hld, G1, ← hS2, g2, gr2, h3', hl2, gq2, wq2, QW, hle9, hfill]
   refine hQ _ ⟨rfl, (c2.put hci (some ⟨(ci : Int), r.n, true, r⟩) rfl).to fun i hi => ?_, (X2.weaken (by simp)).trans' (Ext.upd (.inl (by simp)))⟩
   simp [WS]
theorem Tl (hcode : E.fn 16 = some d16) (hintr : E.intr 16 = none) (c : ZY s q A) (k : Int) :
 W (dcall E (d + 1) (.func (.func 16) #[] #[]) [.pointer (some ⟨q, 0, none⟩), .int .i64 k] s) fun p => p.1 = .tuple #[] ∧ ZY p.2 q (fun k' => if k' = k ∧ ((A k).map (·.done)).getD false = false then none else A k') ∧ Ext [q] s p.2 := by
 have gq := c.gq
 have wq := c.wq
 refine zr fun Q hQ => ?_
 rw [zh hintr hcode rfl]
 by_cases h0 : 0 ≤ k
 case neg =>
  have h0' : (0 ≤ k) = False := eq_false h0
  simp only [sA, zb, zl, zm, Nat.reduceEqDiff, za, zd, pp, pv, pw, pg, d16, h0']
  refine hQ _ ⟨rfl, c.to fun i hi => ?_, .refl⟩
  rw [if_neg]
  intro h
  omega
 by_cases h1 : k < 64
 case neg =>
  have h0' : (0 ≤ k) = True := eq_true h0
  have h1' : (k < 64) = False := eq_false h1
  simp only [sA, zb, zl, zm, Nat.reduceEqDiff, za, zd, pp, pv, pw, pg, d16, h0', h1']
  refine hQ _ ⟨rfl, c.to fun i hi => ?_, .refl⟩
  rw [if_neg]
  intro h
  omega
 obtain ⟨ci, rfl⟩ : ∃ ci : Nat, k = (ci : Int) := ⟨k.toNat, (Int.toNat_of_nonneg h0).symm⟩
 have hci : ci < 64 := by omega
 have h0' : (0 ≤ (ci : Int)) = True := eq_true h0
 have h1' : ((ci : Int) < 64) = True := eq_true h1
 have hle9 : (ci * 9 + 9 ≤ 576) = True := eq_true (by omega)
 obtain ⟨b, nn, wd, rr, hrr, hnn, hwd, hbb⟩ := Fi (A (ci : Int))
 have hg2 := Qk A hci (j := 2) (by rw [hrr]; rfl)
 rw [hwd] at hQ
 cases wd with
 | true =>
  simp only [sA, zb, zl, zm, Nat.reduceEqDiff, za, zd, Cells.get, reduceCtorEq, pp, pv, pw, pg, d16, h0', h1', gq, hci, hg2]
  refine hQ _ ⟨rfl, c.to fun i hi => ?_, .refl⟩
  rw [if_neg]
  intro h
  cases h.2
 | false =>
  have hfill : (zk (zk (zk (zk (zk (zk (zk (zk (zk (Ql A) (ci * 9) (.bool false)) (ci * 9 + 1) (.int .i64 0)) (ci * 9 + 2) (.bool false)) (ci * 9 + 3) (.int .i64 0)) (ci * 9 + 4) (.int .i64 0)) (ci * 9 + 5) (.bool false)) (ci * 9 + 6) (.int .i64 0)) (ci * 9 + 7) (.int .i64 0)) (ci * 9 + 8) (.int .i64 0)) = Ql (fun k => if k = (ci : Int) then none else A k) := Cells.list.inj (VW A hci none)
  simp (maxDischargeDepth := 8) only [sA, sM, zb, zl, zm, za, zd, Cells.get, Nat.reduceAdd, allOne, ze, DS.wrC, Cells.size, Cells.fillFrom, Cells.set, zg, pp, pv, pw, pg, Nat.reduceLT, d16, h0', h1', gq, wq, hci, hg2, Cells.get, QW, hle9, hfill]
  refine hQ _ ⟨rfl, (c.put hci none rfl).to fun i hi => ?_, Ext.upd (.inl (by simp))⟩
  simp
end
end Go.Dx.TbA
namespace Go.Dx.TbA
open Go Go.Dx Go.Dx.Tab Go.Proofs.YtffgmngdgkpflaaGreat
section
variable {E : Env} (hT : Jx E) {s : DS} {d t m clock : Nat} {M : TRs}
include hT
theorem Pm (hcode : E.fn 17 = some d17) (hintr : E.intr 17 = none) (hcl : E.intr 39 = some Wp) (c : TabAt s t m M clock) (hG : s.Good) :
 W (dcall E (d + 2) (.func (.func 17) #[] #[]) [.pointer (some ⟨t, 0, none⟩)] s) fun r => r.1 = .pointer (some ⟨s.next + 1, 0, none⟩) ∧ TabAt r.2 (s.next + 1) s.next M clock ∧ Ext [] s r.2 := by
 have go := c.go
 have gm := c.gm
 have hmade := YS hT c.go (d := d)
 have hK : ∀ dd, dcall E (dd + 1) (.func (.func 39) #[] #[]) [.map (some m)] s = some (.map (some s.next), s.new (.map (M.map trE) clock)) := fun dd => Ki hcl (by
  show Wp [.map (some m)] s = _
  unfold Wp
  simp only [gm])
 refine zr fun Q hQ => ?_
 rw [zh hintr hcode rfl]
 simp only [sA, zb, za, zd, Cells.get, getN, reduceCtorEq, zg, pp, pv, d17, go, hmade, hK]
 refine hQ _ ⟨rfl, ⟨?_, ?_, ?_, ?_, by omega⟩, Ext.new.trans' Ext.new⟩
 · simp (maxDischargeDepth := 8) only [sM, zU, hG]
 · exact (hG _ (Nat.le_succ _)).2
 · simp (maxDischargeDepth := 8) only [sM, zU, hG]
 · exact (hG _ (Nat.le_refl _)).2
end
section
variable {E : Env} (hC : QE E) (hT : Jx E) (hE : Dy E) (hF : Kw E) (hW : R7 E) (hP : R9 E) (hB : Go.Dx.RpA.En E) {s : DS} {d p m clock : Nat} {M : TRs}
include hC hT hE hF hW hP hB
theorem VK (hcode : E.fn 18 = some d18) (hintr : E.intr 18 = none) (hM : Zn M clock) (c : TabAt s p m M clock) (hG : s.Good) :
 W (dcall E (d + 13) (.func (.func 18) #[] #[]) [.pointer (some ⟨p, 0, none⟩)] s) fun r => r.1 = .agg ⟨QN [Yk (Go.Dx.Tab.rowOf M)]⟩ ∧ Ext [] s r.2 := by
 have gp := c.go
 have gm := c.gm
 have hlf := hC.lf
 refine zr fun Q hQ => ?_
 rw [zh hintr hcode rfl]
 obtain ⟨S1, hS1⟩ : ∃ S1 : DS, S1 = s.new (.cells (.list (zq .u8 32)) false) := ⟨_, rfl⟩
 have hz : ([.int .u8 0, .int .u8 0, .int .u8 0, .int .u8 0, .int .u8 0, .int .u8 0, .int .u8 0, .int .u8 0, .int .u8 0, .int .u8 0, .int .u8 0, .int .u8 0, .int .u8 0, .int .u8 0, .int .u8 0, .int .u8 0, .int .u8 0, .int .u8 0, .int .u8 0, .int .u8 0, .int .u8 0, .int .u8 0, .int .u8 0, .int .u8 0, .int .u8 0, .int .u8 0, .int .u8 0, .int .u8 0, .int .u8 0, .int .u8 0, .int .u8 0, .int .u8 0] : List Value) = zq .u8 32 := rfl
 have X1 : Ext [] s S1 := by rw [hS1]; exact Ext.new
 have hG1 := X1.good hG
 have gD1 : S1.get s.next = some (.cells (.list (zq .u8 32)) false) := by rw [hS1]; exact DS.new_get_self hG
 have wD1 : S1.wr s.next = true := X1.wrs (hG _ (Nat.le_refl _)).2
 have hm1 := YS hT (d := d + 11) (X1.keep gp (by simp))
 simp (maxDischargeDepth := 8) only [sA, sM, zb, pp, pv, d18, hz, ← hS1, hm1]
 obtain ⟨tbB, htb⟩ : ∃ tbB, tbB = Yk (Go.Dx.Tab.rowOf M) := ⟨_, rfl⟩
 have htl : tbB.length ≤ 2626 := by rw [htb]; exact WZ _
 rw [← htb] at hQ
 refine W.mono (Jf hC hT hE hF hW hP (d := d) hM (c.keep X1 (by simp) (by simp)) hG1) ?_
 rintro ⟨v2, s2⟩ ⟨hv, hsh, hb, X2⟩
 simp only at hv hsh hb X2
 rw [← htb] at hv hsh
 have hR := SlR.of hv hsh
 have hG2 := X2.good hG1
 have gD2 := X2.keep gD1 (by simp)
 have wD2 := X2.wrs wD1
 obtain ⟨a, hv2, _⟩ := hsh
 have hcell : v2.cells.toList = [v2] := by rw [hv2]; rfl
 simp (maxDischargeDepth := 8) only [sA, Nat.reduceLeDiff, zg, repeatZ, hG2, hcell]
 have gP : (s2.new (.cells (.list [v2]) false)).get s2.next = some (.cells (.list ([(v2, tbB)].map Prod.fst)) false) := DS.new_get_self hG2
 have hG3 : (s2.new (.cells (.list [v2]) false)).Good := DS.new_good hG2
 refine W.mono (Go.Dx.RpA.H5 hB (d := d + 7) (b := s2.next) (ps := [(v2, tbB)]) hG3 gP ?_ ?_ ?_ ?_) ?_
 · intro q hq
   obtain rfl := List.mem_singleton.1 hq
   exact hR.keep (Ext.new (F := [])) (by simp)
 · show 1 < E.lf
   omega
 · show 1 ≤ 1000000
   omega
 · intro q hq
   obtain rfl := List.mem_singleton.1 hq
   show tbB.length < E.lf
   omega
 rintro ⟨v3, s3⟩ ⟨h3, X3⟩
 simp only at h3 X3
 subst h3
 have hO : U .u8 32 (QN [tbB]) := Gx _
 have X23 : Ext [] s2 s3 := Ext.new.trans' X3
 have gD3 := X23.keep gD2 (by simp)
 have wD3 := X23.wrs wD2
 show NG _ _ _ _ _ _ (.agg ⟨QN [tbB]⟩, s3)
 obtain ⟨o, ho⟩ : ∃ o, o = QN [tbB] := ⟨_, rfl⟩
 rw [← ho] at hO ⊢
 have hfill9 : (Cells.list (zq .u8 32)).fillFrom 0 o = .list o := by
  rw [ZC _ _ _ (by rw [hO.1]; decide), hO.1]
  simp [zq]
 have hrd : (s3.upd s.next (.cells (.list o) false)).read s.next 0 32 = some o := by
  unfold DS.read
  simp only [DS.upd_get_self, gD3, Option.map_some]
  rw [zQ _ _ _ (by rw [hO.1]; decide)]
  simp only [List.drop_zero]
  rw [List.take_of_length_le (by rw [hO.1]; exact Nat.le_refl _)]
 simp (maxDischargeDepth := 8) only [sA, sM, zo, za, zd, DS.wrC, Cells.size, Nat.reduceLT, gD3, wD3, hO.1, hO.allOne, hfill9, (Zi .u8 32).1, hrd]
 refine hQ _ ⟨by rw [ho], ?_⟩
 exact ((X1.trans' X2).trans' X23).trans (Ext.upd (F := [s.next]) (.inl (by simp))) (by simp)
end
section
variable {E : Env} (hO : Ky E) (hS : Go.Dx.RpA.Mf E) {s : DS} {d q : Nat} {A : Int → Option TR}
include hO hS
theorem Pw (hcode : E.fn 19 = some d19) (hintr : E.intr 19 = none) (c : ZY s q A) (hA : ∀ (i : Nat) (x : TR), A (i : Int) = some x → Kx x ∧ x.key = (i : Int)) (hG : s.Good) :
 W (dcall E (d + 8) (.func (.func 19) #[] #[]) [.pointer (some ⟨q, 0, none⟩)] s) fun r => r.1 = .agg ⟨QN [Yk A]⟩ ∧ Ext [] s r.2 := by
 refine zr fun Q hQ => ?_
 rw [zh hintr hcode rfl]
 simp (maxDischargeDepth := 8) only [sA, sM, pp, pv, d19, hG]
 obtain ⟨S1, hS1⟩ : ∃ S1 : DS, S1 = s.new (.cells (.list (zq .u8 32)) false) := ⟨_, rfl⟩
 rw [show ([.int .u8 0, .int .u8 0, .int .u8 0, .int .u8 0, .int .u8 0, .int .u8 0, .int .u8 0, .int .u8 0, .int .u8 0, .int .u8 0, .int .u8 0, .int .u8 0, .int .u8 0, .int .u8 0, .int .u8 0, .int .u8 0, .int .u8 0, .int .u8 0, .int .u8 0, .int .u8 0, .int .u8 0, .int .u8 0, .int .u8 0, .int .u8 0, .int .u8 0, .int .u8 0, .int .u8 0, .int .u8 0, .int .u8 0, .int .u8 0, .int .u8 0, .int .u8 0] : List Value) = zq .u8 32 from rfl, ← hS1]
 have X1 : Ext [] s S1 := by rw [hS1]; exact Ext.new
 have hG1 := X1.good hG
 have gT1 : S1.get s.next = some (.cells (.list (zq .u8 32)) false) := by rw [hS1]; exact DS.new_get_self hG
 have wT1 : S1.wr s.next = true := X1.wrs (hG _ (Nat.le_refl _)).2
 clear hS1
 refine W.mono (Fh hO (d := d) (c.keep X1 (by simp)) hA hG1) ?_
 rintro ⟨v2, s2⟩ ⟨x2, X2, b2⟩
 simp only at x2 X2 b2
 have hpl := WZ A
 have hpp : 2 ≤ (Yk A).length := by unfold Yk JL; rw [List.length_append, zB]; omega
 simp only [sA]
 refine W.mono (Go.Dx.RpA.HZ hS (d := d + 3) (X2.good hG1) x2 (fun e => by rw [e] at hpp; simp at hpp) (by omega)) ?_
 rintro ⟨v3, s3⟩ ⟨h3, X3⟩
 simp only at h3 X3
 rw [LN (fun e => by rw [e] at hpp; simp at hpp) (by omega)] at h3
 subst h3
 have hO' : U .u8 32 (QN [Yk A]) := Gx _
 generalize QN [Yk A] = o at hO' hQ
 have gT3 := X3.keep (X2.keep gT1 (by simp)) (by simp)
 have wT3 := X3.wrs (X2.wrs wT1)
 have hfill := Go.Dx.RpA.KO hO' (Zi .u8 32)
 have hrd : (s3.upd s.next (.cells (.list o) false)).read s.next 0 32 = some o := by
  unfold DS.read
  simp only [DS.upd_get_self, gT3, Option.map_some]
  rw [zQ _ _ _ (by rw [hO'.1]; decide)]
  simp only [List.drop_zero]
  rw [List.take_of_length_le (by rw [hO'.1]; exact Nat.le_refl _)]
 simp (maxDischargeDepth := 8) only [sA, sM, zo, za, zd, DS.wrC, Cells.size, Nat.reduceLT, gT3, wT3, hO'.1, hO'.allOne, hfill, (Zi .u8 32).1, hrd]
 exact hQ _ ⟨rfl, ((X1.trans' X2).trans' X3).trans (Ext.upd (F := [s.next]) (.inl (by simp))) (by simp)⟩
end
end Go.Dx.TbA
namespace Go.Dx.TbA
open Go Go.Dx Go.Dx.Tab Go.Dx.St Go.Proofs.YtffgmngdgkpflaaGreat
theorem Q1 {n : Int} (h1 : -9223372036854775808 ≤ n) (h2 : n ≤ 9223372036854775807) : I64 n := by
 unfold I64
 omega
theorem WY {size : Nat} (hs : size < 8) {x most : Int} {rest : List Int} (h0 : 0 ≤ x) (h1 : x ≤ most) (h2 : most < ((256 ^ size : Nat) : Int)) (h3 : most ≤ 4611686018427387904) : rdN size most (leB x size ++ rest, false) = (x, (rest, false)) := by
 obtain ⟨n, rfl⟩ := Int.eq_ofNat_of_zero_le h0
 have hl : low .u64 ((n : Nat) : Int) = n := by show n % 18446744073709551616 = n; omega
 have hn : n < 256 ^ size := by omega
 have hv : leV (leB ((n : Nat) : Int) size) = ((n : Nat) : Int) := by rw [Vy, hl, Nat.mod_eq_of_lt hn]
 unfold rdN
 rw [FY (zB _ size)]
 simp only [z3, if_false]
 rw [hv, if_neg (by omega), zi (by omega) (by omega)]
theorem Sh (b : Bool) (rest : List Int) : rdF (Xp b ++ rest, false) = (b, (rest, false)) := by
 unfold rdF Xp
 cases b with
 | false => rw [show CU false = 0 from rfl, WY (size := 1) (by omega) (by omega) (by omega) (by decide) (by decide)]; rfl
 | true => rw [show CU true = 1 from rfl, WY (size := 1) (by omega) (by omega) (by omega) (by decide) (by decide)]; rfl
theorem My {l : List Int} (rest : List Int) (hl : l.length ≤ 65536) : rdB ((leB (l.length : Int) 4 ++ l) ++ rest, false) = (l, (rest, false)) := by
 unfold rdB
 rw [List.append_assoc, WY (size := 4) (by omega) (by omega) (by omega) (by decide) (by decide)]
 show tk ((l.length : Int)).toNat (l ++ rest, false) = _
 rw [Int.toNat_natCast]
 exact FY rfl
theorem Wx {α β : Type} {f : RS → α × RS} {g : RS → β × RS} {x : α} {y : β} {a b rest : List Int} (h1 : ∀ r, f (a ++ r, false) = (x, (r, false))) (h2 : ∀ r, g (b ++ r, false) = (y, (r, false))) : rdP f g ((a ++ b) ++ rest, false) = ((x, y), (rest, false)) := by
 unfold rdP
 rw [List.append_assoc, h1]
 simp only
 rw [h2]
theorem PN {x : zX} (h0 : 0 ≤ x.1.1) (h1 : x.1.1 ≤ 255) (hn : I64 x.1.2) (hl : x.2.2.length ≤ 65536) (rest : List Int) : DU (Q6 x ++ rest, false) = (x, (rest, false)) :=
 Wx (fun r => Wx (fun r => WY (size := 1) (by omega) h0 h1 (by decide) (by decide)) fun r => Vr hn) fun r => Wx (fun r => Sh _ r) fun r => My r hl
theorem PJ {r : Rp} (hm : ZR r) (hv : I64 r.v) (rest : List Int) : Xz (encR r ++ rest, false) = ((((r.c, r.n), r.rej), (r.trap, (r.v, r.gas))), (rest, false)) := by
 obtain ⟨_, ⟨w1, w2, w3, w4⟩, w5, w6, w7, w8⟩ := hm
 refine Wx (fun q => Wx (fun q => Wx (fun q => WY (size := 1) (by omega) w1 (show r.c ≤ 255 by omega) (by decide) (by decide)) fun q => Vr (Q1 (n := r.n) (by omega) (by omega))) fun q => Sh _ q) fun q => Wx (fun q => WY (size := 1) (by omega) w5 (show r.trap ≤ 255 by omega) (by decide) (by decide)) fun q => Wx (fun q => Vr hv) fun q => Vr (Q1 (n := r.gas) (by omega) (by omega))
theorem TC {r : Rp} (hm : ZR r) (hv : I64 r.v) : Jd (encR r) ∧ Vj (encR r) = r := by
 have h := PJ hm hv []
 rw [List.append_nil] at h
 have hg : Jd (encR r) := by
  unfold Jd GL
  rw [h]
  exact ⟨⟨rfl, rfl⟩, hm⟩
 refine ⟨hg, ?_⟩
 unfold Vj
 rw [if_pos hg, h]
 rfl
def AOk (A : Int → Option TR) : Prop := ∀ k x, A k = some x → Kx x ∧ x.key = k ∧ I64 x.rep.v
theorem Sx {x : TR} (h : Kx x) (hv : I64 x.rep.v) : Wr (XK x) ∧ ZT (XK x) = x := by
 obtain ⟨key, num, done, rep⟩ := x
 cases done with
 | true =>
  obtain ⟨hm, h1, h2⟩ := h.done rfl
  simp only at hm h1 h2 hv
  obtain ⟨h3, h4⟩ := TC hm hv
  refine ⟨?_, ?_⟩
  · unfold Wr XK
    simp only [if_true]
    exact ⟨h3, by rw [h4]; exact h1, by rw [h4]; exact h2⟩
  · unfold ZT XK
    simp only [if_true]
    rw [h4]
 | false =>
  have hr := h.rest rfl
  simp only at hr
  refine ⟨?_, ?_⟩
  · unfold Wr XK
    simp only [z3, if_false]
    exact ⟨trivial, h.who⟩
  · unfold ZT XK
    simp only [z3, if_false]
    rw [hr]
theorem Jm {A : Int → Option TR} {i : Nat} (hi : Go.Dx.Tab.isAt A i = true) : ∃ x, A (i : Int) = some x ∧ XL A (i : Int) = XK x := by
 obtain ⟨x, hx⟩ := Option.isSome_iff_exists.1 hi
 exact ⟨x, hx, by unfold XL; rw [hx]⟩
theorem Fv {A : Int → Option TR} (hA : AOk A) : Zu (Ys A) := by
 intro i x hx
 unfold Ys at hx ⊢
 rw [List.getElem?_map] at hx
 cases ha : (Yl A)[i]? with
 | none => rw [ha] at hx; cases hx
 | some a =>
  rw [ha] at hx
  have hx := Option.some.inj hx
  simp only at hx
  subst hx
  obtain ⟨z, hz, hl⟩ := Jm (Da ha).2
  show Wr (XL A (a : Int)) ∧ ∀ y : zX, i ≠ 0 → _ → y.1.1 < (XL A (a : Int)).1.1
  obtain ⟨h1, h2, h3⟩ := hA _ _ hz
  rw [hl]
  refine ⟨(Sx h1 h3).1, fun y hi hy => ?_⟩
  rw [List.getElem?_map] at hy
  cases hb : (Yl A)[i - 1]? with
  | none => rw [hb] at hy; cases hy
  | some b =>
   rw [hb] at hy
   have hy := Option.some.inj hy
   simp only at hy
   subst hy
   obtain ⟨w, hw, hl2⟩ := Jm (Da hb).2
   obtain ⟨h4, h5, h6⟩ := hA _ _ hw
   rw [hl2]
   have := Vv hb ha (by omega)
   show w.key < z.key
   omega
theorem Fd {A : Int → Option TR} (hA : AOk A) : Go.Dx.Tab.rowOf (YC (Ys A)) = A := by
 funext k
 cases hk : A k with
 | none =>
  refine VG k _ 0 fun y hy e => ?_
  obtain ⟨i, hi, rfl⟩ := List.mem_map.1 hy
  obtain ⟨z, hz, hl⟩ := Jm (List.mem_filter.1 hi).2
  rw [hl] at e
  have e : k = z.key := e
  rw [(hA _ _ hz).2.1] at e
  rw [e, hz] at hk
  cases hk
 | some x =>
  obtain ⟨h1, h2, h3⟩ := hA _ _ hk
  have hw := h1.who
  obtain ⟨i, hi⟩ : ∃ i : Nat, k = (i : Int) := ⟨k.toNat, by rw [← h2]; exact (Int.toNat_of_nonneg hw.1).symm⟩
  subst hi
  have hm : i ∈ Yl A := List.mem_filter.2 ⟨List.mem_range.2 (by have := hw.2.1; omega), by unfold Go.Dx.Tab.isAt; rw [hk]; rfl⟩
  obtain ⟨j, hj⟩ := List.mem_iff_getElem?.1 hm
  have hl : XL A (i : Int) = XK x := by unfold XL; rw [hk]
  have hb : (ZT (XK x), j) ∈ YC (Ys A) := by
   unfold YC Ys
   rw [List.mem_zipIdx_iff_getElem?, List.getElem?_map, List.getElem?_map, hj]
   simp [hl]
  have := VO (Fv hA).trs.keys hb
  rw [(Sx h1 h3).2, h2] at this
  exact this
theorem VY {A : Int → Option TR} (hA : AOk A) : rdT (Yk A, false) = (Ys A, ([], false)) := by
 have h := Mx (rd := DU) (e := Q6) (xs := Ys A) (rest := []) (Nat.le_trans (Gf A) (by omega)) fun x hx rest => by
  obtain ⟨i, hi, rfl⟩ := List.mem_map.1 hx
  have hl27 := Kc A (i : Int)
  obtain ⟨z, hz, hl⟩ := Jm (List.mem_filter.1 hi).2
  have hw := (hA _ _ hz).1.who
  rw [hl] at hl27 ⊢
  have hw1 : 0 ≤ z.key := hw.1
  have hw2 : z.key ≤ 63 := hw.2.1
  exact PN hw1 (by show z.key ≤ 255; omega) (Q1 (n := z.num) (by have := hw.2.2.1; omega) (by have := hw.2.2.2; omega)) (by omega) rest
 rw [List.append_nil] at h
 exact h
theorem V5 {A : Int → Option TR} (hA : AOk A) : KA (Yk A) ∧ Zu (rdT (Yk A, false)).1 := by
 unfold KA
 rw [VY hA]
 exact ⟨⟨rfl, rfl⟩, Fv hA⟩
theorem Fq (A : Int → Option TR) : IsB (Yk A) := by
 have hR : ∀ r : Rp, IsB (encR r) := fun r b hb => by
  simp only [encR, Q5, Xp, List.mem_append] at hb
  rcases hb with ((h | h) | h) | h | h | h <;> exact Jn _ _ _ h
 intro b hb
 unfold Yk JL at hb
 rcases List.mem_append.1 hb with hb | hb
 · exact Jn _ _ _ hb
 · obtain ⟨x, hx, hb⟩ := List.mem_flatMap.1 hb
   obtain ⟨i, hi, rfl⟩ := List.mem_map.1 hx
   have hbody : IsB (XL A (i : Int)).2.2 := by
    unfold XL
    split
    · unfold XK
      split
      · exact hR _
      · exact fun b h => nomatch h
    · exact fun b h => nomatch h
   simp only [Q6, Xp, List.mem_append] at hb
   rcases hb with (h | h) | h | h | h
   · exact Jn _ _ _ h
   · exact Jn _ _ _ h
   · exact Jn _ _ _ h
   · exact Jn _ _ _ h
   · exact hbody b h
end Go.Dx.TbA
namespace Go.Dx.TbA
open Go Go.Dx Go.Dx.Tab Go.Proofs.YtffgmngdgkpflaaGreat
open Go.Dx.St (I64)
theorem Gv : ∀ (n f : Nat) (l : List Value), (∀ x, x ∈ l → ∃ a, x = .int .u8 a) → l.length = n → n < f → Ym f (.one .int) 1 l l n = some true
 | 0, f + 1, _, _, _, _ => rfl
 | n + 1, f + 1, [], _, h, _ => by simp at h
 | n + 1, f + 1, x :: l, h, hl, hf => by
  obtain ⟨a, rfl⟩ := h x (List.mem_cons_self ..)
  unfold Ym
  have e1 : zJ .int (.int .u8 a) (.int .u8 a) = some true := by simp [zJ]
  simp only [e1]
  exact Gv n f l (fun y hy => h y (List.mem_cons_of_mem _ hy)) (by simpa using hl) (by omega)
theorem C0 {l : List Value} (h : U .u8 32 l) : YJ 5000 (.arr 32 1 (.one .int)) (.agg ⟨l⟩) (.agg ⟨l⟩) = some true := by
 show Ym 4999 (.one .int) 1 l l 32 = some true
 refine Gv 32 4999 l (fun x hx => ?_) h.1 (by omega)
 obtain ⟨i, hi, e⟩ := List.getElem_of_mem hx
 have := h.2 i (by rw [← h.1]; exact hi)
 rw [zw, List.getElem?_eq_getElem hi] at this
 exact ⟨_, by rw [← e]; exact Option.some.inj this⟩
theorem NX {M : TRs} {clock : Nat} (hM : Zn M clock) (hv : ∀ k x, Go.Dx.Tab.rowOf M k = some x → I64 x.rep.v) : AOk (Go.Dx.Tab.rowOf M) := fun k x h => by
 obtain ⟨b, hb⟩ := Xj h
 exact ⟨hM.row _ hb, Yy h, hv k x h⟩
theorem Q8 {A : Int → Option TR} {M : TRs} {clock : Nat} (hA : AOk A) (hM : Zn M clock) {b : Bool} {y : TR} (hy : I64 y.rep.v) (h : Go.Dx.Tab.rowOf M = WS A b y) : AOk (Go.Dx.Tab.rowOf M) := NX hM fun k x hx => by
 rw [h] at hx
 unfold WS at hx
 split at hx
 · cases hx; exact hy
 · exact (hA k x hx).2.2
section
variable {E : Env} (hC : QE E) (hG' : GM E) (hR : Vh E) (hF : Kw E) (hT : Jx E) (hE : Dy E) (hW : R7 E) (hP : R9 E) (hB : Go.Dx.RpA.En E) {s : DS} {d : Nat}
include hC hG' hR hF hT hE hW hP hB
theorem Rq (f5 : E.fn 5 = some d5) (i5 : E.intr 5 = none) (fU : E.fn 6 = some d6) (iU : E.intr 6 = none) (frd : E.fn 25 = some d25) (ird : E.intr 25 = none) (fN : E.fn 10 = some d10) (iN : E.intr 10 = none)
 (fDg : E.fn 18 = some d18) (iDg : E.intr 18 = none) (hG : s.Good) :
 W (dcall E (d + 14) (.func (.func 5) #[] #[]) [] s) fun r => r.1 = .bool true ∧ Ext [] s r.2 := by
 have hlf := hC.lf
 refine zr fun Q hQ => ?_
 rw [zh i5 f5 rfl]
 simp only [sA, pp, pv, pw, pg, d5]
 refine W.mono (T9 hT (d := d + 12) hG) ?_
 rintro ⟨r0, s1⟩ ⟨hr', c1, X1⟩
 simp only at hr' c1 X1
 subst hr'
 have G1 := X1.good hG
 have hcl := JO hT hP (d := d + 12) (t := s.next + 1) G1
 simp only [sA, zb, zJ, Nat.reduceEqDiff, hcl]
 obtain ⟨S1, hS1⟩ : ∃ S1 : DS, S1 = s1.new (.cells (.list [.pointer (some ⟨s.next + 1, 0, none⟩)]) false) := ⟨_, rfl⟩
 rw [← hS1]
 have Y1 : Ext [] s1 S1 := by rw [hS1]; exact Ext.new
 clear hS1
 have c1' := c1.keep Y1 (by simp) (by simp)
 have G1' := Y1.good G1
 refine W.mono (Qf hT (d := d + 8) c1' G1' 3 1) ?_
 rintro ⟨v2, S2⟩ ⟨h2, ⟨M2, k2, c2, hk2, hT2⟩, X2⟩
 simp only at h2 c2 X2
 have hb2 : Zf (Go.Dx.Tab.rowOf [] 3) 3 1 = 0 := by decide
 rw [hb2] at h2 hT2
 subst h2
 have hM2 := hk2 Zn.nil
 have hA2 : AOk (Go.Dx.Tab.rowOf M2) := Q8 (A := Go.Dx.Tab.rowOf []) (fun k x h => nomatch h) hM2 (y := ⟨3, 1, false, Rp.zero⟩) (Q1 (n := 0) (by omega) (by omega)) (funext hT2)
 have r2 : Go.Dx.Tab.rowOf M2 3 = some ⟨3, 1, false, Rp.zero⟩ := by rw [hT2 3]; rfl
 have G2 := X2.good G1'
 simp only [sA, Nat.reduceEqDiff]
 refine W.mono (Qf hT (d := d + 8) c2 G2 3 1) ?_
 rintro ⟨v3, S3⟩ ⟨h3, ⟨M3, k3, c3, hk3, hT3⟩, X3⟩
 simp only at h3 c3 X3
 have hb3 : Zf (Go.Dx.Tab.rowOf M2 3) 3 1 = 5 := by rw [r2]; decide
 rw [hb3] at h3 hT3
 subst h3
 have hM3 := hk3 hM2
 have hA3 : AOk (Go.Dx.Tab.rowOf M3) := Q8 hA2 hM3 (y := ⟨3, 1, false, Rp.zero⟩) (Q1 (n := 0) (by omega) (by omega)) (funext hT3)
 have r3 : Go.Dx.Tab.rowOf M3 3 = some ⟨3, 1, false, Rp.zero⟩ := by rw [hT3 3, r2]; rfl
 have G3 := X3.good G2
 obtain ⟨r, hr⟩ : ∃ r : Rp, r = ⟨3, 1, false, 0, 7, 0⟩ := ⟨_, rfl⟩
 have hrc : [.int .i64 3, .int .i64 1, .bool false, .int .i64 0, .int .i64 7, .int .i64 0] = r.cells := by rw [hr]; rfl
 simp only [sA, Nat.reduceEqDiff, Nat.reduceAdd, Nat.reduceLeDiff, zg, hrc]
 refine W.mono (QL hC hT hE (d := d + 3) c3 G3 r) ?_
 rintro ⟨v4, S4⟩ ⟨h4, ⟨M4, k4, c4, hk4, hT4⟩, X4⟩
 simp only at h4 c4 X4
 have hb4 : z6 (Go.Dx.Tab.rowOf M3 r.c) r = 0 := by rw [hr, r3]; decide
 rw [hb4] at h4 hT4
 subst h4
 have hM4 := hk4 hM3
 have hA4 : AOk (Go.Dx.Tab.rowOf M4) := Q8 hA3 hM4 (y := ⟨r.c, r.n, true, r⟩) (Q1 (n := r.v) (by rw [hr]; decide) (by rw [hr]; decide)) (funext hT4)
 have r4 : Go.Dx.Tab.rowOf M4 3 = some ⟨3, 1, true, r⟩ := by rw [hT4 3, hr]; rfl
 have G4 := X4.good G3
 simp only [sA, Nat.reduceEqDiff]
 refine W.mono (Fe hT (d := d + 11) c4 G4 3 1) ?_
 rintro ⟨v5, S5⟩ ⟨h5, X5⟩
 simp only at h5 X5
 have hrp : VS (Go.Dx.Tab.rowOf M4 3) 1 = [.agg ⟨[.int .i64 3, .int .i64 1, .bool false, .int .i64 0, .int .i64 7, .int .i64 0]⟩, .bool true] := by rw [r4, hr]; rfl
 rw [hrp] at h5
 subst h5
 have G5 := X5.good G4
 have c5 := c4.keep X5 (by simp) (by simp)
 simp (maxDischargeDepth := 8) only [sA, sM, zb, getN, Nat.reduceAdd, allOne, ze, DS.wrC, Cells.size, Cells.fillFrom, Cells.set, zk, Nat.reduceLT, G5]
 obtain ⟨S6, hS6⟩ : ∃ S6 : DS, S6 = (S5.new (.cells (.list [.int .i64 0, .int .i64 0, .bool false, .int .i64 0, .int .i64 0, .int .i64 0]) false)).upd S5.next (.cells (.list [.int .i64 3, .int .i64 1, .bool false, .int .i64 0, .int .i64 7, .int .i64 0]) false) := ⟨_, rfl⟩
 rw [← hS6]
 have X6 : Ext [] S5 S6 := by
  rw [hS6]
  exact (Ext.new (F := [])).trans (Ext.upd (F := [S5.next]) (.inl (by simp))) (by simp)
 have g6 : S6.get S5.next = some (.cells (.list [.int .i64 3, .int .i64 1, .bool false, .int .i64 0, .int .i64 7, .int .i64 0]) false) := by rw [hS6, DS.upd_get_self, DS.new_get_self G5]; rfl
 clear hS6
 have c6 := c5.keep X6 (by simp) (by simp)
 have G6 := X6.good G5
 refine W.mono (Jf hC hT hE hF hW hP (d := d + 1) hM4 c6 G6) ?_
 rintro ⟨v7, S7⟩ ⟨h7, hsh7, hb7, X7⟩
 simp only at h7 hsh7 hb7 X7
 have hR7 := SlR.of h7 hsh7
 have G7 := X7.good G6
 simp only [sA]
 refine W.mono (VF hC hG' hR hF hT (d := d + 2) fU iU frd ird fN iN hR7 (Fq _) (Nat.le_trans (WZ _) (by omega)) G7) ?_
 rintro ⟨v8, S8⟩ ⟨X8, h8⟩
 simp only at X8 h8
 rcases h8 with ⟨hno, _⟩ | ⟨⟨hg8, hok8⟩, t8, m8, rfl, c8, ht8, hm8⟩
 · exact absurd (V5 hA4) hno
 have hrd := VY hA4
 rw [hrd] at c8 hok8
 simp only at c8 hok8
 have hfun := Fd hA4
 have hM8 := hok8.trs
 have G8 := X8.good G7
 have g8 := X8.keep (X7.keep g6 (by simp)) (by simp)
 have ct8 := (c6.keep X7 (by simp) (by simp)).keep X8 (by simp) (by simp)
 simp only [sA, zb, zl, zm, Nat.reduceEqDiff, Cells.get, getN, g8]
 refine W.mono (VJ hT (d := d + 11) ct8 G8 3) ?_
 rintro ⟨v9, S9⟩ ⟨h9, X9⟩
 simp only at h9 X9
 have hl9 : ((Go.Dx.Tab.rowOf M4 3).map (·.num)).getD 0 = 1 := by rw [r4]; rfl
 rw [hl9] at h9
 subst h9
 have G9 := X9.good G8
 simp only [sA, zb, zl, zm, zJ, Nat.reduceEqDiff]
 refine W.mono (VK hC hT hE hF hW hP hB (d := d) fDg iDg hM8 (c8.keep X9 (by simp) (by simp)) G9) ?_
 rintro ⟨va, Sa⟩ ⟨ha, Xa⟩
 simp only at ha Xa
 rw [hfun] at ha
 subst ha
 have Ga := Xa.good G9
 simp only [sA, Nat.reduceEqDiff]
 refine W.mono (VK hC hT hE hF hW hP hB (d := d) fDg iDg hM4 ((ct8.keep X9 (by simp) (by simp)).keep Xa (by simp) (by simp)) Ga) ?_
 rintro ⟨vb, Sb⟩ ⟨hb, Xb⟩
 simp only at hb Xb
 subst hb
 have hoo := C0 (l := QN [Yk (Go.Dx.Tab.rowOf M4)]) (Gx _)
 simp (maxDischargeDepth := 8) only [sA, sM, zb, za, zd, Nat.reduceLT, N6, hoo]
 have leX1 := X1.le
 have leY := Y1.le
 have h0 : Ext [] s S4 := (((X1.trans' Y1).trans X2 (by simp)).trans X3 (by simp)).trans X4 (by simp)
 exact hQ _ ⟨rfl, ((((((h0.trans' X5).trans' X6).trans' X7).trans' X8).trans' X9).trans' Xa).trans' Xb⟩
end
end Go.Dx.TbA
