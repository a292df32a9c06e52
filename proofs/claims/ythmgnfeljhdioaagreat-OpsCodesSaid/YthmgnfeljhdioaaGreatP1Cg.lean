/- A part. -/
import Derived.Test.YthmgnfeljhdioaaGreatP1Cd
import Derived.Test.YthmgnfeljhdioaaGreatDxIn
set_option linter.unusedVariables false
set_option linter.unusedSimpArgs false
set_option linter.unusedSectionVars false
set_option maxRecDepth 100000
set_option maxHeartbeats 4000000
namespace Go.Dx.TbA
open Go Go.Dx Go.Proofs.YthmgnfeljhdioaaGreat
def ZW {α β : Type} (Ra : Nat → DS → Value → α → Prop) (Rb : Nat → DS → Value → β → Prop) (o : Nat) (s : DS) (v : Value) (x : α × β) : Prop := ∃ a b : Value, v = .agg ⟨a.cells.toList ++ b.cells.toList⟩ ∧ Ra o s a x.1 ∧ Rb o s b x.2
theorem YR {α β : Type} {Ra : Nat → DS → Value → α → Prop} {Rb : Nat → DS → Value → β → Prop} (ha : Yi Ra) (hb : Yi Rb) : Yi (ZW Ra Rb) :=
 ⟨fun n s s' v x F ⟨a, b, e, h1, h2⟩ X hF => ⟨a, b, e, ha.stab _ _ _ _ _ _ h1 X hF, hb.stab _ _ _ _ _ _ h2 X hF⟩, fun n n' s v x ⟨a, b, e, h1, h2⟩ hn => ⟨a, b, e, ha.mono _ _ _ _ _ h1 hn, hb.mono _ _ _ _ _ h2 hn⟩⟩
structure GF (E : Env) : Prop where
 ftake : E.fn 91 = some d91
 itake : E.intr 91 = none
 fglow : E.fn 123 = some d123
 iglow : E.intr 123 = none
 fnum2 : E.fn 122 = some d122
 inum2 : E.intr 122 = none
 lf : 10000 ≤ E.lf
theorem SlR.cell {s : DS} {v : Value} {l : List Int} (h : SlR s v l) (hl : l ≠ []) : ∃ b off sp c cc ro, v = .slice (some ⟨b, off, sp⟩) l.length c ∧ s.get b = some (.cells cc ro) ∧ ∀ i x, l[i]? = some x → cc.get (off + i) = some (.int .u8 x) := by
 rcases h with ⟨_, rfl⟩ | ⟨b, off, sp, c, rfl, h1, h2, h3⟩
 · exact absurd rfl hl
 · unfold DS.read at h3
   split at h3
   · rename_i cc ro hg
     obtain ⟨_, h4⟩ := QJ h3
     refine ⟨b, off, sp, c, cc, ro, rfl, hg, fun i x hx => ?_⟩
     rw [h4 i (List.getElem?_eq_some_iff.1 hx).1]
     unfold u8s
     rw [List.getElem?_map, hx]
     rfl
   · cases h3
def ZY (_ : Nat) (_ : DS) (v : Value) (x : Int) : Prop := v = .int .i64 x
theorem zN : Yi ZY := ⟨fun _ _ _ _ _ _ h _ _ => h, fun _ _ _ _ _ h _ => h⟩
theorem CP {j : Nat} (hj : j ≤ 7) : (256 : Int) ^ j ≤ 72057594037927936 := by
 match j, hj with
 | 0, _ | 1, _ | 2, _ | 3, _ | 4, _ | 5, _ | 6, _ | 7, _ => decide
 | _ + 8, h => omega
structure LN (s1 : DS) (r : Nat) (w : Value) (size : Nat) (most : Int) (l : List Int) (n : Nat) (y : St) : Prop where
 ex : ∃ j : Nat, n = l.length - j ∧ j ≤ l.length ∧ y.s = s1 ∧ y.defers = [] ∧ (y.t.get 0 = some (.pointer (some ⟨r, 0, none⟩)) ∧ y.t.get 1 = some (.int .i64 (size : Int)) ∧ y.t.get 2 = some (.int .i64 most) ∧ y.t.get 7 = some (.int .u64 (leV (l.take j))) ∧ y.t.get 12 = some w ∧ y.t.get 13 = some (.int .i64 (l.length : Int)) ∧ y.t.get 14 = some (.int .i64 (j : Int)))
section
variable {E : Env} (hC : GF E) {s : DS} {r : Nat} {bv : Value} {bs : List Int} {bad : Bool} {d : Nat}
include hC
theorem CA (h : YZ s r bv bs bad) (hG : s.Good) (hl : bs.length ≤ 1048576) (n : Nat) (hn : n ≤ 65536) :
 W (dcall E (d + 1) (.func (.func 91) #[] #[]) [.pointer (some ⟨r, 0, none⟩), .int .i64 (n : Int)] s) fun p => ∃ bv', SlR p.2 p.1 (tk n (bs, bad)).1 ∧ YZ p.2 r bv' (tk n (bs, bad)).2.1 (tk n (bs, bad)).2.2 ∧ Ext [r] s p.2 ∧ (∀ k, k ∈ blk bv' → k ∈ blk bv) ∧ ∀ k, k ∈ blk p.1 → k ∈ blk bv := by
 have gr := h.gr
 have wr := h.wr
 have hrl := DS.get_lt' gr
 obtain ⟨ba, bc, hbv⟩ := h.sl.len
 refine zp fun Q hQ => ?_
 rw [zj hC.itake hC.ftake rfl]
 have e1 : ¬ (n : Int) < 0 := by omega
 have X : ∀ o, Ext [r] s (s.upd r o) := fun o => Ext.upd (.inl (by simp))
 have fail : tk n (bs, bad) = ([], (bs, true)) → Q (.slice none 0 0, s.upd r (.cells (.list [bv, .bool true]) false)) := by
  intro ht
  rw [ht] at hQ
  refine hQ _ ⟨bv, .inl ⟨rfl, rfl⟩, ⟨by rw [DS.upd_get_self, gr]; rfl, by rw [DS.upd_wr]; exact wr, h.sl.keep (X _) (fun k hk e => ?_), h.ne⟩, X _, fun k hk => hk, fun k hk => by simp [blk] at hk⟩
  have e := List.mem_singleton.1 e
  subst e
  exact h.ne hk
 cases bad with
 | true =>
  have := fail (by unfold tk; rw [if_pos (.inl rfl)])
  simp only [sA, zb, Nat.reduceEqDiff, za, ze, Cells.get, getN, Nat.reduceAdd, zh, zg, reduceCtorEq, DS.wrC, Cells.size, Cells.fillFrom, Cells.set, zA, pp, pv, pw, pg, d91, gr, wr]
  exact this
 | false =>
  by_cases c1 : bs.length < n
  · have := fail (by unfold tk; rw [if_pos (.inr c1)])
    have e2 : (bs.length : Int) < (n : Int) := by omega
    subst hbv
    simp only [sA, zb, zo, zm, Nat.reduceEqDiff, za, ze, Cells.get, getN, Nat.reduceAdd, zh, zg, reduceCtorEq, DS.wrC, Cells.size, Cells.fillFrom, Cells.set, zA, pp, pv, pw, pg, d91, gr, wr, e1, e2]
    exact this
  · have ht : tk n (bs, false) = (bs.take n, (bs.drop n, false)) := by unfold tk; rw [if_neg (by simp; omega)]
    rw [ht] at hQ
    have e2 : ¬ (bs.length : Int) < (n : Int) := by omega
    obtain ⟨w1, hw1, r1, b1⟩ := h.sl.take (i := n) (by omega)
    obtain ⟨w2, hw2, r2, b2⟩ := h.sl.drop (i := n) (by omega)
    have hd : ∀ k, k ∈ blk bv → k ∉ [r] := fun k hk e => h.ne (List.mem_singleton.1 e ▸ hk)
    have fin : Q (w1, s.upd r (.cells (.list [w2, .bool false]) false)) :=
     hQ _ ⟨w2, r1.keep (X _) fun k hk => hd k (b1 k hk), ⟨by rw [DS.upd_get_self, gr]; rfl, by rw [DS.upd_wr]; exact wr, r2.keep (X _) fun k hk => hd k (b2 k hk), fun hk => h.ne (b2 _ hk)⟩, X _, b2, b1⟩
    obtain ⟨a2, c2, h2⟩ := r2.len
    subst h2
    subst hbv
    simp only [sA, zb, zo, zm, Nat.reduceEqDiff, za, ze, Cells.get, getN, Nat.reduceAdd, zh, zg, Nat.reduceLeDiff, reduceCtorEq, DS.wrC, Cells.size, Cells.fillFrom, Cells.set, zA, pp, pv, pw, pg, d91, gr, wr, e1, e2, hw1, hw2]
    exact fin
theorem No (h : YZ s r bv bs bad) (hG : s.Good) (hB : IsB bs) (hl : bs.length ≤ 1048576) {size : Nat} (hs : size ≤ 8) {most : Int} (hm : 0 ≤ most) :
 W (dcall E (d + 2) (.func (.func 123) #[] #[]) [.pointer (some ⟨r, 0, none⟩), .int .i64 (size : Int), .int .i64 most] s) (LM s r bv ZY (rdN size most (bs, bad))) := by
 have hlf := hC.lf
 refine zp fun Q hQ => ?_
 rw [zj hC.iglow hC.fglow rfl]
 simp only [sA, Nat.reduceEqDiff, reduceCtorEq, pp, pv, pw, pg, d123]
 refine W.mono (CA hC h hG hl size (by omega)) ?_
 rintro ⟨w, s1⟩ ⟨bv', hw, hin, X1, hb1, hb2⟩
 simp only at hw hin X1 hb1 hb2
 obtain ⟨ll, hll⟩ : ∃ ll, ll = (tk size (bs, bad)).1 := ⟨_, rfl⟩
 have hlB : IsB ll := by
  rw [hll]
  unfold tk
  split
  · exact fun b hb => nomatch hb
  · exact hB.take size
 have hls : ll.length ≤ size := by
  rw [hll]
  unfold tk
  split
  · exact Nat.zero_le _
  · rw [List.length_take]; exact Nat.min_le_left ..
 rw [← hll] at hw
 obtain ⟨wa, wc, hwv⟩ := hw.len
 have gr := hin.gr
 have wr := hin.wr
 subst hwv
 simp only [sA, zb]
 refine Wy (LN s1 r (.slice wa ll.length wc) size most ll) ll.length (by omega) ⟨0, rfl, Nat.zero_le _, rfl, rfl, by simp only [sA, Nat.reduceEqDiff, reduceCtorEq]; exact ⟨rfl, rfl⟩⟩ ?_
 rintro n ⟨t, s2, ds⟩ hn ⟨j, rfl, hj, hs2, hds, ⟨g0, g1, g2, g7, g12, g13, g14⟩⟩
 simp only at hs2 hds g0 g1 g2 g7 g12 g13 g14
 subst hs2 hds
 by_cases c1 : j < ll.length
 · have hx : ll[j]? = some ll[j] := List.getElem?_eq_getElem c1
   generalize ll[j] = x at hx
   have e1 : (j : Int) < (ll.length : Int) := by omega
   obtain ⟨b, off, sp, c, cc, ro, hv', hgb, hcc⟩ := SlR.cell hw (fun e => by rw [e] at c1; simp at c1)
   have hcx := hcc j x hx
   simp only [Cells.get] at hcx
   have hxr := hlB x (List.mem_of_getElem? hx)
   have hr := Qc (hlB.take j)
   have hlt : (ll.take j).length = j := by rw [List.length_take]; omega
   rw [hlt] at hr
   have hor := MP (j := j) (by omega) hr hxr
   have hsn : leV (ll.take (j + 1)) = leV (ll.take j) + 256 ^ j * x := by
    rw [List.take_add_one, hx]
    show leV (ll.take j ++ [x]) = _
    rw [KC, hlt]
   have w2 : zt .i64 ((j : Int) + 1) = ((j + 1 : Nat) : Int) := by rw [zW (by omega) (by omega)]; omega
   have w3 : zt .i64 (8 * (j : Int)) = ((8 * j : Nat) : Int) := by rw [zW (by omega) (by omega)]; omega
   have w4 : zt .u64 x = x := Jn hxr.1 (by omega)
   have hsh : Zr .shl .u64 x ((8 * j : Nat) : Int) = some (.int .u64 (256 ^ j * x)) := by
    unfold Zr
    rw [if_neg (by omega)]
    have hble : Nat.ble (bitsOf .u64) (8 * j) = false := by
     rw [← Bool.not_eq_true, Nat.ble_eq]
     show ¬ 64 ≤ _
     omega
    simp only [Int.toNat_natCast, hble, z3, if_false, hor.1]
   injection hv' with hv1 hv2 hv3
   subst hv1 hv3
   simp only [sA, zb, zo, zm, Nat.reduceEqDiff, Cells.get, g0, g1, g2, g7, g12, g13, g14, hgb, hcx, e1, c1, w2, w3, w4, hsh, hor.2]
   refine ⟨ll.length - (j + 1), by omega, ⟨j + 1, rfl, by omega, rfl, rfl, by simp only [sA, Nat.reduceEqDiff, reduceCtorEq, g0, g1, g2, g12, g13, hsn]⟩⟩
 · have hj' : j = ll.length := by omega
   have e1 : ¬ (j : Int) < (ll.length : Int) := by omega
   rw [hj', List.take_length] at g7
   have hrv := Qc hlB
   have hi : size < 8 → zt .i64 (leV ll) = leV ll := fun h8 => by
    have h7 := CP (j := ll.length) (by omega)
    exact zW (by omega) (by omega)
   by_cases cA : size < 8 ∧ most < leV ll
   · have hrd : rdN size most (bs, bad) = (0, ((tk size (bs, bad)).2.1, true)) := by
      unfold rdN
      rw [← hll, if_pos cA]
      split
      · rename_i hb
        exact Prod.ext rfl (Prod.ext rfl hb)
      · rfl
     have hi := hi cA.1
     have f1 : (size : Int) < 8 := by omega
     have f2 := cA.2
     rw [hrd] at hQ
     have fin : Q (.int .i64 0, s2.upd r (.cells (.list [bv', .bool true]) false)) :=
      hQ _ ⟨bv', rfl, ⟨by rw [DS.upd_get_self, gr]; rfl, by rw [DS.upd_wr]; exact wr, hin.sl.keep (Ext.upd (F := [r]) (.inl (by simp))) (fun k hk e => hin.ne (List.mem_singleton.1 e ▸ hk)), hin.ne⟩, X1.trans' (Ext.upd (.inl (by simp))), hb1⟩
     simp (maxDischargeDepth := 8) only [sA, sM, zb, zo, zm, za, ze, Cells.get, getN, Nat.reduceAdd, zh, zg, DS.wrC, Cells.size, Cells.fillFrom, Cells.set, zA, Nat.reduceLT, g0, g1, g2, g7, g12, g13, g14, gr, wr, e1, hi, f1, f2]
     exact fin
   · cases hbad : (tk size (bs, bad)).2.2 with
     | true =>
      have hrd : rdN size most (bs, bad) = (0, (tk size (bs, bad)).2) := by unfold rdN; rw [if_pos hbad]
      rw [hbad] at gr
      rw [hrd] at hQ
      have fin : Q (.int .i64 0, s2) := hQ _ ⟨bv', rfl, hin, X1, hb1⟩
      by_cases c8 : size < 8
      · have f1 : (size : Int) < 8 := by omega
        have hi := hi c8
        have f2 : ¬ most < leV ll := fun h => cA ⟨c8, h⟩
        simp only [sA, zb, zo, zm, Nat.reduceEqDiff, za, ze, Cells.get, getN, reduceCtorEq, g0, g1, g2, g7, g12, g13, g14, gr, wr, e1, hi, f1, f2]
        exact fin
      · have f1 : ¬ (size : Int) < 8 := by omega
        simp only [sA, zb, zo, zm, Nat.reduceEqDiff, za, ze, Cells.get, getN, reduceCtorEq, g0, g1, g2, g7, g12, g13, g14, gr, wr, e1, f1]
        exact fin
     | false =>
      have hrd : rdN size most (bs, bad) = (zt .i64 (leV ll), (tk size (bs, bad)).2) := by
       unfold rdN
       rw [if_neg (by rw [hbad]; simp), ← hll, if_neg cA]
      rw [hbad] at gr
      rw [hrd] at hQ
      have fin : Q (.int .i64 (zt .i64 (leV ll)), s2) := hQ _ ⟨bv', rfl, hin, X1, hb1⟩
      by_cases c8 : size < 8
      · have f1 : (size : Int) < 8 := by omega
        have hi := hi c8
        have f2 : ¬ most < leV ll := fun h => cA ⟨c8, h⟩
        rw [hi] at fin
        simp only [sA, zb, zo, zm, Nat.reduceEqDiff, za, ze, Cells.get, getN, reduceCtorEq, g0, g1, g2, g7, g12, g13, g14, gr, wr, e1, hi, f1, f2]
        exact fin
      · have f1 : ¬ (size : Int) < 8 := by omega
        simp only [sA, zb, zo, zm, Nat.reduceEqDiff, za, ze, Cells.get, getN, reduceCtorEq, g0, g1, g2, g7, g12, g13, g14, gr, wr, e1, f1]
        exact fin
theorem QP {b1 b2 size : Nat} {most : Int} (hs : size ≤ 8) (hm : 0 ≤ most) :
 Zh E 3 (.func (.func 122) #[] #[.pointer (some ⟨b1, 0, none⟩), .pointer (some ⟨b2, 0, none⟩)]) [(b1, .cells (.list [.int .i64 (size : Int)]) false), (b2, .cells (.list [.int .i64 most]) false)] ZY (rdN size most) := by
 intro d s r bv bs bad hD hb h hB hl hG
 have g1 := hD _ (List.mem_cons_self ..)
 have g2 := hD (b2, _) (List.mem_cons_of_mem _ (List.mem_cons_self ..))
 simp only at g1 g2
 refine zp fun Q hQ => ?_
 rw [zZ hC.inum2 hC.fnum2 rfl]
 simp only [sA, Nat.reduceEqDiff, Cells.get, getN, reduceCtorEq, pp, pv, d122, g1, g2]
 refine W.mono (No hC h hG hB hl hs hm) ?_
 rintro ⟨v3, s3⟩ h3
 simp only [sA, za, ze]
 exact hQ _ h3
end
theorem QE {E : Env} {f1 f2 : Nat} {fp fg gp gg : Value} {α β : Type} {n : Nat} {Df Dg : List (Nat × DObj)} {Ra : Nat → DS → Value → α → Prop} {Rb : Nat → DS → Value → β → Prop} {ra : RS → α × RS} {rb : RS → β × RS}
 (ha : Zh E n fg Df Ra ra) (hb : Zh E n gg Dg Rb rb) (sa : Yi Ra) (sb : Yi Rb) (oa : XQ ra) (ca : ∀ o s v x, Ra o s v x → (∃ n, v = .int .i64 n)) (cb : ∀ o s v x, Rb o s v x → (∃ n, v = .int .i64 n)) (hcode : E.fn 83 = some d83) (hintr : E.intr 83 = none) :
 Zh E (n + 1) (.func (.func 83) #[] #[.pointer (some ⟨f1, 0, none⟩), .pointer (some ⟨f2, 0, none⟩)]) ((f1, .cells (.list [fp, fg]) false) :: (f2, .cells (.list [gp, gg]) false) :: (Df ++ Dg)) (ZW Ra Rb) (rdP ra rb) := by
 intro d s r bv bs bad hD hb2 h hB hl hG
 have g1 := hD _ (List.mem_cons_self ..)
 have g2 := hD (f2, _) (List.mem_cons_of_mem _ (List.mem_cons_self ..))
 have l1 := hb2 _ (List.mem_cons_self ..)
 have l2 := hb2 (f2, _) (List.mem_cons_of_mem _ (List.mem_cons_self ..))
 simp only at g1 g2 l1 l2
 have hDf : Zo s Df := hD.sub fun p hp => List.mem_cons_of_mem _ (List.mem_cons_of_mem _ (List.mem_append_left _ hp))
 have hDg : Zo s Dg := hD.sub fun p hp => List.mem_cons_of_mem _ (List.mem_cons_of_mem _ (List.mem_append_right _ hp))
 have lf : ∀ p, p ∈ Df → p.1 ≠ r := fun p hp => hb2 p (List.mem_cons_of_mem _ (List.mem_cons_of_mem _ (List.mem_append_left _ hp)))
 have lg : ∀ p, p ∈ Dg → p.1 ≠ r := fun p hp => hb2 p (List.mem_cons_of_mem _ (List.mem_cons_of_mem _ (List.mem_append_right _ hp)))
 have hrl := DS.get_lt' h.gr
 have l1s := DS.get_lt' g1
 have l2s := DS.get_lt' g2
 refine zp fun Q hQ => ?_
 show W (dcall E ((d + n) + 1) _ _ _) Q
 rw [zZ hintr hcode rfl]
 simp (maxDischargeDepth := 8) only [sA, sM, zb, Cells.get, getN, pp, pv, Nat.reduceLT, d83, g1, g2, hG, l1s, l2s]
 obtain ⟨S1, hS1⟩ : ∃ S1 : DS, S1 = s.new (.cells (.list [.int .i64 0, .int .i64 0]) false) := ⟨_, rfl⟩
 rw [← hS1]
 have X1 : ∀ F, Ext F s S1 := fun F => by rw [hS1]; exact Ext.new
 have nS : S1.next = s.next + 1 := by rw [hS1]; rfl
 have gS : S1.get s.next = some (.cells (.list [.int .i64 0, .int .i64 0]) false) := by rw [hS1]; exact DS.new_get_self hG
 have wS : S1.wr s.next = true := (X1 []).wrs (hG _ (Nat.le_refl _)).2
 have I1 : YZ S1 r bv bs bad := h.keep (X1 []) (by simp) (by simp)
 have GS := (X1 []).good hG
 refine W.mono (ha d S1 r bv bs bad (hDf.keep (X1 []) (by simp)) lf I1 hB hl GS) ?_
 rintro ⟨v2, s2⟩ ⟨bv2, R2, I2, X2, b2⟩
 simp only at R2 I2 X2 b2
 have G2 := X2.good GS
 have le2 := X2.le
 obtain ⟨k, hk⟩ := oa.suf (bs, bad)
 have g22 := X2.keep ((X1 []).keep g2 (by simp)) (by simp; exact l2)
 have gS2 := X2.keep gS (by simp; omega)
 have wS2 := X2.wrs wS
 have hca := ca _ _ _ _ R2
 obtain ⟨a, rfl⟩ := hca
 simp only [sA, zb, Nat.reduceEqDiff, Cells.get, getN, reduceCtorEq, g22]
 refine W.mono (hb d s2 r bv2 _ _ ((hDg.keep (X1 []) (by simp)).keep X2 fun p hp => by simp; exact lg p hp) lg I2 (by rw [hk]; exact hB.drop k) (by rw [hk]; simp; omega) G2) ?_
 rintro ⟨v3, s3⟩ ⟨bv3, R3, I3, X3, b3⟩
 simp only at R3 I3 X3 b3
 have le3 := X3.le
 have gS3 := X3.keep gS2 (by simp; omega)
 have wS3 := X3.wrs wS2
 have hcb := cb _ _ _ _ R3
 obtain ⟨b, rfl⟩ := hcb
 have hblt : ∀ k, k ∈ blk bv3 → k < s.next := fun k hk => h.sl.lt k (b2 k (b3 k hk))
 have U : ∀ o F, Ext (s.next :: F) s3 (s3.upd s.next o) := fun o F => Ext.upd (.inl (by simp))
 have lo : s.next < s3.next := by omega
 simp (maxDischargeDepth := 8) only [sA, sM, zk, za, ze, Cells.get, getN, Nat.reduceAdd, zh, zg, Nat.reduceLeDiff, DS.wrC, Cells.size, Cells.fillFrom, Cells.set, zA, zi, DS.read, Cells.take, Nat.reduceLT, gS3, wS3, lo, X3.good G2]
 refine hQ _ ⟨bv3, ⟨_, _, rfl, sa.mono _ _ _ _ _ (sa.stab _ _ _ _ _ _ (sa.stab _ _ _ _ _ _ R2 X3 (by simp; omega)) (U _ []) (by simp; omega)) (by omega), sb.mono _ _ _ _ _ (sb.stab _ _ _ _ _ _ R3 (U _ []) (by simp; omega)) (by omega)⟩, I3.keep (U _ []) (by simp; omega) (fun k hk => by have := hblt k hk; simp; omega), ?_, fun k hk => b2 k (b3 k hk)⟩
 exact ((X1 _).trans' (X2.trans' X3)).trans (U _ []) (by simp)
theorem Ce {E : Env} {f1 f2 : Nat} {fp fg gp gg : Value} {α β : Type} {n : Nat} {Df Dg : List (Nat × DObj)} {Ra : Nat → DS → Value → α → Prop} {Rb : Nat → DS → Value → β → Prop} {ra : RS → α × RS} {rb : RS → β × RS}
 (ha : Zh E n fg Df Ra ra) (hb : Zh E n gg Dg Rb rb) (sa : Yi Ra) (sb : Yi Rb) (oa : XQ ra) (ca : ∀ o s v x, Ra o s v x → (∃ n, v = .int .i64 n)) (cb : ∀ o s v x, Rb o s v x → (∃ n1 n2, v = .agg ⟨[.int .i64 n1, .int .i64 n2]⟩)) (hcode : E.fn 104 = some d104) (hintr : E.intr 104 = none) :
 Zh E (n + 1) (.func (.func 104) #[] #[.pointer (some ⟨f1, 0, none⟩), .pointer (some ⟨f2, 0, none⟩)]) ((f1, .cells (.list [fp, fg]) false) :: (f2, .cells (.list [gp, gg]) false) :: (Df ++ Dg)) (ZW Ra Rb) (rdP ra rb) := by
 intro d s r bv bs bad hD hb2 h hB hl hG
 have g1 := hD _ (List.mem_cons_self ..)
 have g2 := hD (f2, _) (List.mem_cons_of_mem _ (List.mem_cons_self ..))
 have l1 := hb2 _ (List.mem_cons_self ..)
 have l2 := hb2 (f2, _) (List.mem_cons_of_mem _ (List.mem_cons_self ..))
 simp only at g1 g2 l1 l2
 have hDf : Zo s Df := hD.sub fun p hp => List.mem_cons_of_mem _ (List.mem_cons_of_mem _ (List.mem_append_left _ hp))
 have hDg : Zo s Dg := hD.sub fun p hp => List.mem_cons_of_mem _ (List.mem_cons_of_mem _ (List.mem_append_right _ hp))
 have lf : ∀ p, p ∈ Df → p.1 ≠ r := fun p hp => hb2 p (List.mem_cons_of_mem _ (List.mem_cons_of_mem _ (List.mem_append_left _ hp)))
 have lg : ∀ p, p ∈ Dg → p.1 ≠ r := fun p hp => hb2 p (List.mem_cons_of_mem _ (List.mem_cons_of_mem _ (List.mem_append_right _ hp)))
 have hrl := DS.get_lt' h.gr
 have l1s := DS.get_lt' g1
 have l2s := DS.get_lt' g2
 refine zp fun Q hQ => ?_
 show W (dcall E ((d + n) + 1) _ _ _) Q
 rw [zZ hintr hcode rfl]
 simp (maxDischargeDepth := 8) only [sA, sM, zb, Cells.get, getN, pp, pv, Nat.reduceLT, d104, g1, g2, hG, l1s, l2s]
 obtain ⟨S1, hS1⟩ : ∃ S1 : DS, S1 = s.new (.cells (.list [.int .i64 0, .int .i64 0, .int .i64 0]) false) := ⟨_, rfl⟩
 rw [← hS1]
 have X1 : ∀ F, Ext F s S1 := fun F => by rw [hS1]; exact Ext.new
 have nS : S1.next = s.next + 1 := by rw [hS1]; rfl
 have gS : S1.get s.next = some (.cells (.list [.int .i64 0, .int .i64 0, .int .i64 0]) false) := by rw [hS1]; exact DS.new_get_self hG
 have wS : S1.wr s.next = true := (X1 []).wrs (hG _ (Nat.le_refl _)).2
 have I1 : YZ S1 r bv bs bad := h.keep (X1 []) (by simp) (by simp)
 have GS := (X1 []).good hG
 refine W.mono (ha d S1 r bv bs bad (hDf.keep (X1 []) (by simp)) lf I1 hB hl GS) ?_
 rintro ⟨v2, s2⟩ ⟨bv2, R2, I2, X2, b2⟩
 simp only at R2 I2 X2 b2
 have G2 := X2.good GS
 have le2 := X2.le
 obtain ⟨k, hk⟩ := oa.suf (bs, bad)
 have g22 := X2.keep ((X1 []).keep g2 (by simp)) (by simp; exact l2)
 have gS2 := X2.keep gS (by simp; omega)
 have wS2 := X2.wrs wS
 have hca := ca _ _ _ _ R2
 obtain ⟨a, rfl⟩ := hca
 simp only [sA, zb, Nat.reduceEqDiff, Cells.get, getN, reduceCtorEq, g22]
 refine W.mono (hb d s2 r bv2 _ _ ((hDg.keep (X1 []) (by simp)).keep X2 fun p hp => by simp; exact lg p hp) lg I2 (by rw [hk]; exact hB.drop k) (by rw [hk]; simp; omega) G2) ?_
 rintro ⟨v3, s3⟩ ⟨bv3, R3, I3, X3, b3⟩
 simp only at R3 I3 X3 b3
 have le3 := X3.le
 have gS3 := X3.keep gS2 (by simp; omega)
 have wS3 := X3.wrs wS2
 have hcb := cb _ _ _ _ R3
 obtain ⟨y1, y2, rfl⟩ := hcb
 have hblt : ∀ k, k ∈ blk bv3 → k < s.next := fun k hk => h.sl.lt k (b2 k (b3 k hk))
 have U : ∀ o F, Ext (s.next :: F) s3 (s3.upd s.next o) := fun o F => Ext.upd (.inl (by simp))
 have lo : s.next < s3.next := by omega
 simp (maxDischargeDepth := 8) only [sA, sM, zk, za, ze, Cells.get, getN, Nat.reduceAdd, zh, zg, Nat.reduceLeDiff, DS.wrC, Cells.size, Cells.fillFrom, Cells.set, zA, zi, DS.read, Cells.take, Nat.reduceLT, gS3, wS3, lo, X3.good G2]
 refine hQ _ ⟨bv3, ⟨_, _, rfl, sa.mono _ _ _ _ _ (sa.stab _ _ _ _ _ _ (sa.stab _ _ _ _ _ _ R2 X3 (by simp; omega)) (U _ []) (by simp; omega)) (by omega), sb.mono _ _ _ _ _ (sb.stab _ _ _ _ _ _ R3 (U _ []) (by simp; omega)) (by omega)⟩, I3.keep (U _ []) (by simp; omega) (fun k hk => by have := hblt k hk; simp; omega), ?_, fun k hk => b2 k (b3 k hk)⟩
 exact ((X1 _).trans' (X2.trans' X3)).trans (U _ []) (by simp)
theorem SlR.of' {s s' : DS} {v : Value} {r : List Int} (h : SlR s v r) (e : ∀ k, k ∈ blk v → s'.get k = s.get k) : SlR s' v r := by
 rcases h with h | ⟨b, off, sp, c, rfl, h1, h2, h3⟩
 · exact .inl h
 · refine .inr ⟨b, off, sp, c, rfl, h1, h2, ?_⟩
   unfold DS.read at h3 ⊢
   rw [e b (by simp [blk])]
   exact h3
theorem Cg {E : Env} {f1 f2 : Nat} {fp fg gp gg : Value} {α β : Type} {n : Nat} {Df Dg : List (Nat × DObj)} {Ra : Nat → DS → Value → α → Prop} {Rb : Nat → DS → Value → β → Prop} {ra : RS → α × RS} {rb : RS → β × RS}
 (ha : Zh E n fg Df Ra ra) (hb : Zh E n gg Dg Rb rb) (sa : Yi Ra) (sb : Yi Rb) (oa : XQ ra) (ca : ∀ o s v x, Ra o s v x → (∃ n1 n2, v = .agg ⟨[.int .i64 n1, .int .i64 n2]⟩)) (cb : ∀ o s v x, Rb o s v x → (∃ q, v = .bool q)) (fb : ∀ n s s' v x, Rb n s v x → (∀ k, n ≤ k → s'.get k = s.get k) → Rb n s' v x) (hfr : ∀ d, zG (dcall E d)) (hcode : E.fn 99 = some d99) (hintr : E.intr 99 = none) :
 Zh E (n + 1) (.func (.func 99) #[] #[.pointer (some ⟨f1, 0, none⟩), .pointer (some ⟨f2, 0, none⟩)]) ((f1, .cells (.list [fp, fg]) false) :: (f2, .cells (.list [gp, gg]) false) :: (Df ++ Dg)) (ZW Ra Rb) (rdP ra rb) := by
 intro d s r bv bs bad hD hb2 h hB hl hG
 have g1 := hD _ (List.mem_cons_self ..)
 have g2 := hD (f2, _) (List.mem_cons_of_mem _ (List.mem_cons_self ..))
 have l1 := hb2 _ (List.mem_cons_self ..)
 have l2 := hb2 (f2, _) (List.mem_cons_of_mem _ (List.mem_cons_self ..))
 simp only at g1 g2 l1 l2
 have hDf : Zo s Df := hD.sub fun p hp => List.mem_cons_of_mem _ (List.mem_cons_of_mem _ (List.mem_append_left _ hp))
 have hDg : Zo s Dg := hD.sub fun p hp => List.mem_cons_of_mem _ (List.mem_cons_of_mem _ (List.mem_append_right _ hp))
 have lf : ∀ p, p ∈ Df → p.1 ≠ r := fun p hp => hb2 p (List.mem_cons_of_mem _ (List.mem_cons_of_mem _ (List.mem_append_left _ hp)))
 have lg : ∀ p, p ∈ Dg → p.1 ≠ r := fun p hp => hb2 p (List.mem_cons_of_mem _ (List.mem_cons_of_mem _ (List.mem_append_right _ hp)))
 have hrl := DS.get_lt' h.gr
 have l1s := DS.get_lt' g1
 have l2s := DS.get_lt' g2
 refine zp fun Q hQ => ?_
 show W (dcall E ((d + n) + 1) _ _ _) Q
 rw [zZ hintr hcode rfl]
 simp (maxDischargeDepth := 8) only [sA, sM, zb, Cells.get, getN, pp, pv, Nat.reduceLT, d99, g1, g2, hG, l1s, l2s]
 obtain ⟨S1, hS1⟩ : ∃ S1 : DS, S1 = s.new (.cells (.list [.int .i64 0, .int .i64 0, .bool false]) false) := ⟨_, rfl⟩
 rw [← hS1]
 have X1 : ∀ F, Ext F s S1 := fun F => by rw [hS1]; exact Ext.new
 have nS : S1.next = s.next + 1 := by rw [hS1]; rfl
 have gS : S1.get s.next = some (.cells (.list [.int .i64 0, .int .i64 0, .bool false]) false) := by rw [hS1]; exact DS.new_get_self hG
 have wS : S1.wr s.next = true := (X1 []).wrs (hG _ (Nat.le_refl _)).2
 have I1 : YZ S1 r bv bs bad := h.keep (X1 []) (by simp) (by simp)
 have GS := (X1 []).good hG
 refine W.mono (ha d S1 r bv bs bad (hDf.keep (X1 []) (by simp)) lf I1 hB hl GS) ?_
 rintro ⟨v2, s2⟩ ⟨bv2, R2, I2, X2, b2⟩
 simp only at R2 I2 X2 b2
 have G2 := X2.good GS
 have le2 := X2.le
 obtain ⟨k, hk⟩ := oa.suf (bs, bad)
 have g22 := X2.keep ((X1 []).keep g2 (by simp)) (by simp; exact l2)
 have gS2 := X2.keep gS (by simp; omega)
 have wS2 := X2.wrs wS
 have hca := ca _ _ _ _ R2
 obtain ⟨x1, x2, rfl⟩ := hca
 obtain ⟨S2, hS2⟩ : ∃ S2 : DS, S2 = (s2.new (.cells (.list [.int .i64 0, .int .i64 0]) false)).upd s2.next (.cells (.list [.int .i64 x1, .int .i64 x2]) false) := ⟨_, rfl⟩
 have XF : ∀ F, Ext F s2 S2 := fun F => by
  have e1 : Ext F s2 (s2.new (.cells (.list [.int .i64 0, .int .i64 0]) false)) := Ext.new
  have e2 : Ext (s2.next :: F) (s2.new (.cells (.list [.int .i64 0, .int .i64 0]) false)) ((s2.new (.cells (.list [.int .i64 0, .int .i64 0]) false)).upd s2.next (.cells (.list [.int .i64 x1, .int .i64 x2]) false)) := Ext.upd (.inl (by simp))
  rw [hS2]
  exact e1.trans e2 (by simp; intro a ha; exact .inl ha)
 have XA := XF [s2.next]
 have nA : S2.next = s2.next + 1 := by rw [hS2, DS.upd_next]; rfl
 have gA : S2.get s2.next = some (.cells (.list [.int .i64 x1, .int .i64 x2]) false) := by rw [hS2, DS.upd_get_self, DS.new_get_self G2]; rfl
 have GA := XA.good G2
 have rlt : r < s2.next := DS.get_lt' I2.gr
 have g2A := XA.keep g22 (by simp; omega)
 have IA : YZ S2 r bv2 _ _ := I2.keep XA (by simp; omega) (fun k hk => by have := I2.sl.lt k hk; simp; omega)
 have DA := ((hDg.keep (X1 []) (by simp)).keep X2 fun p hp => by simp; exact lg p hp).keep XA fun p hp => by
  have := DS.get_lt' (((hDg.keep (X1 []) (by simp)).keep X2 fun p hp => by simp; exact lg p hp) p hp)
  simp
  omega
 have gSA := XA.keep gS2 (by simp; omega)
 have wSA := XA.wrs wS2
 simp (maxDischargeDepth := 8) only [sA, sM, zb, Cells.get, getN, Nat.reduceAdd, zh, zg, DS.wrC, Cells.size, Cells.fillFrom, Cells.set, zA, ldA, foot, DS.read, Cells.take, Nat.reduceLT, G2, g22, ← hS2, g2A, gA]
 refine W.masked (hfr _) (hb d (YK S2 _ _) r bv2 (ra (bs, bad)).2.1 (ra (bs, bad)).2.2 (fun p hp => (Zj ?_).trans (DA p hp)) lg ⟨(Zj ?_).trans IA.gr, J2 IA.wr ?_ ?_, SlR.of' IA.sl fun k hk => Zj ?_, IA.ne⟩ (by rw [hk]; exact hB.drop k) (by rw [hk]; simp; omega) (Yb GA fun k hk => ?_)) ?_
 · (simp only [hidden, shielded, noteAt, zO, Bool.or_false, Bool.or_eq_false_iff, Bool.and_eq_false_iff, Zk, Zv, Zs, true_and, and_true, true_or, or_true] <;> omega)
 · (simp only [hidden, shielded, noteAt, zO, Bool.or_false, Bool.or_eq_false_iff, Bool.and_eq_false_iff, Zk, Zv, Zs, true_and, and_true, true_or, or_true] <;> omega)
 · (simp only [hidden, shielded, noteAt, zO, Bool.or_false, Bool.or_eq_false_iff, Bool.and_eq_false_iff, Zk, Zv, Zs, true_and, and_true, true_or, or_true] <;> omega)
 · (simp only [hidden, shielded, noteAt, zO, Bool.or_false, Bool.or_eq_false_iff, Bool.and_eq_false_iff, Zk, Zv, Zs, true_and, and_true, true_or, or_true] <;> omega)
 · (simp only [hidden, shielded, noteAt, zO, Bool.or_false, Bool.or_eq_false_iff, Bool.and_eq_false_iff, Zk, Zv, Zs, true_and, and_true, true_or, or_true] <;> omega)
 · exact ⟨by (simp only [hidden, shielded, noteAt, zO, Bool.or_false, Bool.or_eq_false_iff, Bool.and_eq_false_iff, Zk, Zv, Zs, true_and, and_true, true_or, or_true] <;> omega), by (simp only [hidden, shielded, noteAt, zO, Bool.or_false, Bool.or_eq_false_iff, Bool.and_eq_false_iff, Zk, Zv, Zs, true_and, and_true, true_or, or_true] <;> omega)⟩
 rintro v3 s3' ⟨bv3, R3', I3', X3', b3⟩ df
 simp only at R3' I3' X3' b3
 have hsame : ∀ k, (Zi S2 s3').get k = s3'.get k := fun k => YG (by (simp only [hidden, shielded, noteAt, zO, Bool.or_false, Bool.or_eq_false_iff, Bool.and_eq_false_iff, Zk, Zv, Zs, true_and, and_true, true_or, or_true] <;> omega)) X3'
 have X3u := Ext.unmask' X3' df
 obtain ⟨s3, hs3⟩ : ∃ s3 : DS, s3 = Zi S2 s3' := ⟨_, rfl⟩
 have n3 : s3'.next = s3.next := by rw [hs3]; rfl
 have R3 : Rb S2.next s3 v3 _ := fb _ _ _ _ _ R3' fun k _ => by rw [hs3]; exact hsame k
 have I3 : YZ s3 r bv3 _ _ := ⟨by rw [hs3, hsame]; exact I3'.gr, by rw [hs3, W3]; exact IA.wr, SlR.of' I3'.sl fun k _ => by rw [hs3]; exact hsame k, I3'.ne⟩
 rw [← hs3] at X3u
 have X3 : Ext [r] s2 s3 := (XF [r]).trans' X3u
 have le3 := X3.le
 have gS3 := X3.keep gS2 (by simp; omega)
 have wS3 := X3.wrs wS2
 have hcb := cb _ _ _ _ R3
 obtain ⟨y1, rfl⟩ := hcb
 have hblt : ∀ k, k ∈ blk bv3 → k < s.next := fun k hk => h.sl.lt k (b2 k (b3 k hk))
 have U : ∀ o F, Ext (s.next :: F) s3 (s3.upd s.next o) := fun o F => Ext.upd (.inl (by simp))
 have lo : s.next < s3.next := by omega
 simp (maxDischargeDepth := 8) only [sA, sM, zk, za, ze, Cells.get, getN, Nat.reduceAdd, zh, zg, Nat.reduceLeDiff, DS.wrC, Cells.size, Cells.fillFrom, Cells.set, zA, zi, foot, DS.read, Cells.take, Nat.reduceLT, ← hs3, n3, gS3, wS3, lo, X3.good G2]
 refine hQ _ ⟨bv3, ⟨_, _, rfl, sa.mono _ _ _ _ _ (sa.stab _ _ _ _ _ _ (sa.stab _ _ _ _ _ _ R2 X3 (by simp; omega)) (U _ []) (by simp; omega)) (by omega), sb.mono _ _ _ _ _ (sb.stab _ _ _ _ _ _ R3 (U _ []) (by simp; omega)) (by omega)⟩, I3.keep (U _ []) (by simp; omega) (fun k hk => by have := hblt k hk; simp; omega), ?_, fun k hk => b2 k (b3 k hk)⟩
 exact ((X1 _).trans' (X2.trans' X3)).trans (U _ []) (by simp)
theorem Ci {E : Env} {f1 f2 : Nat} {fp fg gp gg : Value} {α β : Type} {n : Nat} {Df Dg : List (Nat × DObj)} {Ra : Nat → DS → Value → α → Prop} {Rb : Nat → DS → Value → β → Prop} {ra : RS → α × RS} {rb : RS → β × RS}
 (ha : Zh E n fg Df Ra ra) (hb : Zh E n gg Dg Rb rb) (sa : Yi Ra) (sb : Yi Rb) (oa : XQ ra) (ca : ∀ o s v x, Ra o s v x → (∃ n1 n2 q, v = .agg ⟨[.int .i64 n1, .int .i64 n2, .bool q]⟩)) (cb : ∀ o s v x, Rb o s v x → (∃ n1 n2 n3, v = .agg ⟨[.int .i64 n1, .int .i64 n2, .int .i64 n3]⟩)) (fb : ∀ n s s' v x, Rb n s v x → (∀ k, n ≤ k → s'.get k = s.get k) → Rb n s' v x) (hfr : ∀ d, zG (dcall E d)) (hcode : E.fn 97 = some d97) (hintr : E.intr 97 = none) :
 Zh E (n + 1) (.func (.func 97) #[] #[.pointer (some ⟨f1, 0, none⟩), .pointer (some ⟨f2, 0, none⟩)]) ((f1, .cells (.list [fp, fg]) false) :: (f2, .cells (.list [gp, gg]) false) :: (Df ++ Dg)) (ZW Ra Rb) (rdP ra rb) := by
 intro d s r bv bs bad hD hb2 h hB hl hG
 have g1 := hD _ (List.mem_cons_self ..)
 have g2 := hD (f2, _) (List.mem_cons_of_mem _ (List.mem_cons_self ..))
 have l1 := hb2 _ (List.mem_cons_self ..)
 have l2 := hb2 (f2, _) (List.mem_cons_of_mem _ (List.mem_cons_self ..))
 simp only at g1 g2 l1 l2
 have hDf : Zo s Df := hD.sub fun p hp => List.mem_cons_of_mem _ (List.mem_cons_of_mem _ (List.mem_append_left _ hp))
 have hDg : Zo s Dg := hD.sub fun p hp => List.mem_cons_of_mem _ (List.mem_cons_of_mem _ (List.mem_append_right _ hp))
 have lf : ∀ p, p ∈ Df → p.1 ≠ r := fun p hp => hb2 p (List.mem_cons_of_mem _ (List.mem_cons_of_mem _ (List.mem_append_left _ hp)))
 have lg : ∀ p, p ∈ Dg → p.1 ≠ r := fun p hp => hb2 p (List.mem_cons_of_mem _ (List.mem_cons_of_mem _ (List.mem_append_right _ hp)))
 have hrl := DS.get_lt' h.gr
 have l1s := DS.get_lt' g1
 have l2s := DS.get_lt' g2
 refine zp fun Q hQ => ?_
 show W (dcall E ((d + n) + 1) _ _ _) Q
 rw [zZ hintr hcode rfl]
 simp (maxDischargeDepth := 8) only [sA, sM, zb, Cells.get, getN, pp, pv, Nat.reduceLT, d97, g1, g2, hG, l1s, l2s]
 obtain ⟨S1, hS1⟩ : ∃ S1 : DS, S1 = s.new (.cells (.list [.int .i64 0, .int .i64 0, .bool false, .int .i64 0, .int .i64 0, .int .i64 0]) false) := ⟨_, rfl⟩
 rw [← hS1]
 have X1 : ∀ F, Ext F s S1 := fun F => by rw [hS1]; exact Ext.new
 have nS : S1.next = s.next + 1 := by rw [hS1]; rfl
 have gS : S1.get s.next = some (.cells (.list [.int .i64 0, .int .i64 0, .bool false, .int .i64 0, .int .i64 0, .int .i64 0]) false) := by rw [hS1]; exact DS.new_get_self hG
 have wS : S1.wr s.next = true := (X1 []).wrs (hG _ (Nat.le_refl _)).2
 have I1 : YZ S1 r bv bs bad := h.keep (X1 []) (by simp) (by simp)
 have GS := (X1 []).good hG
 refine W.mono (ha d S1 r bv bs bad (hDf.keep (X1 []) (by simp)) lf I1 hB hl GS) ?_
 rintro ⟨v2, s2⟩ ⟨bv2, R2, I2, X2, b2⟩
 simp only at R2 I2 X2 b2
 have G2 := X2.good GS
 have le2 := X2.le
 obtain ⟨k, hk⟩ := oa.suf (bs, bad)
 have g22 := X2.keep ((X1 []).keep g2 (by simp)) (by simp; exact l2)
 have gS2 := X2.keep gS (by simp; omega)
 have wS2 := X2.wrs wS
 have hca := ca _ _ _ _ R2
 obtain ⟨x1, x2, x3, rfl⟩ := hca
 obtain ⟨S2, hS2⟩ : ∃ S2 : DS, S2 = (s2.new (.cells (.list [.int .i64 0, .int .i64 0, .bool false]) false)).upd s2.next (.cells (.list [.int .i64 x1, .int .i64 x2, .bool x3]) false) := ⟨_, rfl⟩
 have XF : ∀ F, Ext F s2 S2 := fun F => by
  have e1 : Ext F s2 (s2.new (.cells (.list [.int .i64 0, .int .i64 0, .bool false]) false)) := Ext.new
  have e2 : Ext (s2.next :: F) (s2.new (.cells (.list [.int .i64 0, .int .i64 0, .bool false]) false)) ((s2.new (.cells (.list [.int .i64 0, .int .i64 0, .bool false]) false)).upd s2.next (.cells (.list [.int .i64 x1, .int .i64 x2, .bool x3]) false)) := Ext.upd (.inl (by simp))
  rw [hS2]
  exact e1.trans e2 (by simp; intro a ha; exact .inl ha)
 have XA := XF [s2.next]
 have nA : S2.next = s2.next + 1 := by rw [hS2, DS.upd_next]; rfl
 have gA : S2.get s2.next = some (.cells (.list [.int .i64 x1, .int .i64 x2, .bool x3]) false) := by rw [hS2, DS.upd_get_self, DS.new_get_self G2]; rfl
 have GA := XA.good G2
 have rlt : r < s2.next := DS.get_lt' I2.gr
 have g2A := XA.keep g22 (by simp; omega)
 have IA : YZ S2 r bv2 _ _ := I2.keep XA (by simp; omega) (fun k hk => by have := I2.sl.lt k hk; simp; omega)
 have DA := ((hDg.keep (X1 []) (by simp)).keep X2 fun p hp => by simp; exact lg p hp).keep XA fun p hp => by
  have := DS.get_lt' (((hDg.keep (X1 []) (by simp)).keep X2 fun p hp => by simp; exact lg p hp) p hp)
  simp
  omega
 have gSA := XA.keep gS2 (by simp; omega)
 have wSA := XA.wrs wS2
 simp (maxDischargeDepth := 8) only [sA, sM, zb, Cells.get, getN, Nat.reduceAdd, zh, zg, DS.wrC, Cells.size, Cells.fillFrom, Cells.set, zA, ldA, foot, DS.read, Cells.take, Nat.reduceLT, G2, g22, ← hS2, g2A, gA]
 refine W.masked (hfr _) (hb d (YK S2 _ _) r bv2 (ra (bs, bad)).2.1 (ra (bs, bad)).2.2 (fun p hp => (Zj ?_).trans (DA p hp)) lg ⟨(Zj ?_).trans IA.gr, J2 IA.wr ?_ ?_, SlR.of' IA.sl fun k hk => Zj ?_, IA.ne⟩ (by rw [hk]; exact hB.drop k) (by rw [hk]; simp; omega) (Yb GA fun k hk => ?_)) ?_
 · (simp only [hidden, shielded, noteAt, zO, Bool.or_false, Bool.or_eq_false_iff, Bool.and_eq_false_iff, Zk, Zv, Zs, true_and, and_true, true_or, or_true] <;> omega)
 · (simp only [hidden, shielded, noteAt, zO, Bool.or_false, Bool.or_eq_false_iff, Bool.and_eq_false_iff, Zk, Zv, Zs, true_and, and_true, true_or, or_true] <;> omega)
 · (simp only [hidden, shielded, noteAt, zO, Bool.or_false, Bool.or_eq_false_iff, Bool.and_eq_false_iff, Zk, Zv, Zs, true_and, and_true, true_or, or_true] <;> omega)
 · (simp only [hidden, shielded, noteAt, zO, Bool.or_false, Bool.or_eq_false_iff, Bool.and_eq_false_iff, Zk, Zv, Zs, true_and, and_true, true_or, or_true] <;> omega)
 · (simp only [hidden, shielded, noteAt, zO, Bool.or_false, Bool.or_eq_false_iff, Bool.and_eq_false_iff, Zk, Zv, Zs, true_and, and_true, true_or, or_true] <;> omega)
 · exact ⟨by (simp only [hidden, shielded, noteAt, zO, Bool.or_false, Bool.or_eq_false_iff, Bool.and_eq_false_iff, Zk, Zv, Zs, true_and, and_true, true_or, or_true] <;> omega), by (simp only [hidden, shielded, noteAt, zO, Bool.or_false, Bool.or_eq_false_iff, Bool.and_eq_false_iff, Zk, Zv, Zs, true_and, and_true, true_or, or_true] <;> omega)⟩
 rintro v3 s3' ⟨bv3, R3', I3', X3', b3⟩ df
 simp only at R3' I3' X3' b3
 have hsame : ∀ k, (Zi S2 s3').get k = s3'.get k := fun k => YG (by (simp only [hidden, shielded, noteAt, zO, Bool.or_false, Bool.or_eq_false_iff, Bool.and_eq_false_iff, Zk, Zv, Zs, true_and, and_true, true_or, or_true] <;> omega)) X3'
 have X3u := Ext.unmask' X3' df
 obtain ⟨s3, hs3⟩ : ∃ s3 : DS, s3 = Zi S2 s3' := ⟨_, rfl⟩
 have n3 : s3'.next = s3.next := by rw [hs3]; rfl
 have R3 : Rb S2.next s3 v3 _ := fb _ _ _ _ _ R3' fun k _ => by rw [hs3]; exact hsame k
 have I3 : YZ s3 r bv3 _ _ := ⟨by rw [hs3, hsame]; exact I3'.gr, by rw [hs3, W3]; exact IA.wr, SlR.of' I3'.sl fun k _ => by rw [hs3]; exact hsame k, I3'.ne⟩
 rw [← hs3] at X3u
 have X3 : Ext [r] s2 s3 := (XF [r]).trans' X3u
 have le3 := X3.le
 have gS3 := X3.keep gS2 (by simp; omega)
 have wS3 := X3.wrs wS2
 have hcb := cb _ _ _ _ R3
 obtain ⟨y1, y2, y3, rfl⟩ := hcb
 have hblt : ∀ k, k ∈ blk bv3 → k < s.next := fun k hk => h.sl.lt k (b2 k (b3 k hk))
 have U : ∀ o F, Ext (s.next :: F) s3 (s3.upd s.next o) := fun o F => Ext.upd (.inl (by simp))
 have lo : s.next < s3.next := by omega
 simp (maxDischargeDepth := 8) only [sA, sM, zk, za, ze, Cells.get, getN, Nat.reduceAdd, zh, zg, Nat.reduceLeDiff, DS.wrC, Cells.size, Cells.fillFrom, Cells.set, zA, zi, foot, DS.read, Cells.take, Nat.reduceLT, ← hs3, n3, gS3, wS3, lo, X3.good G2]
 refine hQ _ ⟨bv3, ⟨_, _, rfl, sa.mono _ _ _ _ _ (sa.stab _ _ _ _ _ _ (sa.stab _ _ _ _ _ _ R2 X3 (by simp; omega)) (U _ []) (by simp; omega)) (by omega), sb.mono _ _ _ _ _ (sb.stab _ _ _ _ _ _ R3 (U _ []) (by simp; omega)) (by omega)⟩, I3.keep (U _ []) (by simp; omega) (fun k hk => by have := hblt k hk; simp; omega), ?_, fun k hk => b2 k (b3 k hk)⟩
 exact ((X1 _).trans' (X2.trans' X3)).trans (U _ []) (by simp)
def Fc (_ : Nat) (_ : DS) (v : Value) (x : Bool) : Prop := v = .bool x
theorem Fb : Yi Fc := ⟨fun _ _ _ _ _ _ h _ _ => h, fun _ _ _ _ _ h _ => h⟩
def rdF (st : RS) : Bool × RS := (decide ((rdN 1 1 st).1 = 1), (rdN 1 1 st).2)
theorem Rn : XQ rdF := ⟨fun st => (zT 1 1).suf st, fun st h => (zT 1 1).bad st h⟩
theorem RY {E : Env} {d : Nat} {s : DS} (h : E.fn 102 = some d102) (i : E.intr 102 = none) (x : Int) : dcall E (d + 1) (.func (.func 102) #[] #[]) [.int .i64 x] s = some (.bool (decide (x = 1)), s) := by
 rw [← Dm, zj i h rfl]
 by_cases c : x = 1
 · rw [decide_eq_true c]
   simp only [sA, zo, zm, za, ze, reduceCtorEq, pp, pv, d102, c]
 · rw [decide_eq_false c]
   simp only [sA, zo, zm, za, ze, reduceCtorEq, pp, pv, d102, c]
theorem DB {E : Env} {f1 t2 : Nat} {fp fg : Value} {n : Nat} {D : List (Nat × DObj)} (ha : Zh E n fg D ZY (rdN 1 1)) (hn : 1 ≤ n) (hfr : ∀ d, zG (dcall E d))
 (ht : E.fn 125 = some d125) (it : E.intr 125 = none) (h1 : E.fn 102 = some d102) (i1 : E.intr 102 = none) :
 Zh E (n + 1) (.func (.func 125) #[] #[.pointer (some ⟨t2, 0, none⟩), .pointer (some ⟨f1, 0, none⟩)]) ((t2, .cells (.list [.func (.func 102) #[] #[]]) false) :: (f1, .cells (.list [fp, fg]) false) :: D) Fc rdF := by
 intro d s r bv bs bad hD hb2 h hB hl hG
 have g1 := hD _ (List.mem_cons_self ..)
 have g2 := hD (f1, _) (List.mem_cons_of_mem _ (List.mem_cons_self ..))
 have l1 := hb2 _ (List.mem_cons_self ..)
 simp only at g1 g2 l1
 have hDf : Zo s D := hD.sub fun p hp => List.mem_cons_of_mem _ (List.mem_cons_of_mem _ hp)
 have lf : ∀ p, p ∈ D → p.1 ≠ r := fun p hp => hb2 p (List.mem_cons_of_mem _ (List.mem_cons_of_mem _ hp))
 have tlt := DS.get_lt' g1
 refine zp fun Q hQ => ?_
 obtain ⟨n, rfl⟩ : ∃ n', n = n' + 1 := ⟨n - 1, by omega⟩
 show W (dcall E ((d + n + 1) + 1) _ _ _) Q
 rw [zZ it ht rfl]
 simp only [sA, zb, Nat.reduceEqDiff, Cells.get, getN, reduceCtorEq, pp, foot, d125, g1, g2]
 refine W.masked (hfr _) (ha d (YK s _ _) r bv bs bad (fun p hp => (Zj ?_).trans (hDf p hp)) lf ⟨(Zj ?_).trans h.gr, J2 h.wr ?_ ?_, SlR.of' h.sl fun k hk => Zj ?_, h.ne⟩ hB hl (Yb hG fun k hk => ?_)) ?_
 · (simp only [hidden, shielded, noteAt, zO, Bool.or_false, Bool.or_eq_false_iff, Bool.and_eq_false_iff, Zk, Zv, Zs, true_and, and_true, true_or, or_true] <;> omega)
 · (simp only [hidden, shielded, noteAt, zO, Bool.or_false, Bool.or_eq_false_iff, Bool.and_eq_false_iff, Zk, Zv, Zs, true_and, and_true, true_or, or_true] <;> omega)
 · (simp only [hidden, shielded, noteAt, zO, Bool.or_false, Bool.or_eq_false_iff, Bool.and_eq_false_iff, Zk, Zv, Zs, true_and, and_true, true_or, or_true] <;> omega)
 · (simp only [hidden, shielded, noteAt, zO, Bool.or_false, Bool.or_eq_false_iff, Bool.and_eq_false_iff, Zk, Zv, Zs, true_and, and_true, true_or, or_true] <;> omega)
 · (simp only [hidden, shielded, noteAt, zO, Bool.or_false, Bool.or_eq_false_iff, Bool.and_eq_false_iff, Zk, Zv, Zs, true_and, and_true, true_or, or_true] <;> omega)
 · exact ⟨by (simp only [hidden, shielded, noteAt, zO, Bool.or_false, Bool.or_eq_false_iff, Bool.and_eq_false_iff, Zk, Zv, Zs, true_and, and_true, true_or, or_true] <;> omega), by (simp only [hidden, shielded, noteAt, zO, Bool.or_false, Bool.or_eq_false_iff, Bool.and_eq_false_iff, Zk, Zv, Zs, true_and, and_true, true_or, or_true] <;> omega)⟩
 rintro v3 s3' ⟨bv3, R3, I3', X3', b3⟩ df
 simp only at R3 I3' X3' b3
 have hsame : ∀ k, (Zi s s3').get k = s3'.get k := fun k => YG (by (simp only [hidden, shielded, noteAt, zO, Bool.or_false, Bool.or_eq_false_iff, Bool.and_eq_false_iff, Zk, Zv, Zs, true_and, and_true, true_or, or_true] <;> omega)) X3'
 have X3 := Ext.unmask' X3' df
 obtain ⟨s3, hs3⟩ : ∃ s3 : DS, s3 = Zi s s3' := ⟨_, rfl⟩
 have n3 : s3'.next = s3.next := by rw [hs3]; rfl
 have I3 : YZ s3 r bv3 _ _ := ⟨by rw [hs3, hsame]; exact I3'.gr, by rw [hs3, W3]; exact h.wr, SlR.of' I3'.sl fun k _ => by rw [hs3]; exact hsame k, I3'.ne⟩
 rw [← hs3] at X3
 have R3 : v3 = _ := R3
 subst R3
 have hfl := fun s => RY (d := d + n) (s := s) h1 i1 (rdN 1 1 (bs, bad)).1
 simp only [sA, Nat.reduceEqDiff, za, ze, foot, ← hs3, n3, hfl]
 exact hQ _ ⟨bv3, rfl, I3, X3, b3⟩
section
variable {E : Env} (hC : GF E) (hP : Ja E) {s : DS} {d : Nat}
include hC hP
theorem Wn (hG : s.Good) {m : Nat} (hm : m ≤ s.next) (hcode : E.fn 54 = some d54) (hintr : E.intr 54 = none) :
 W (dcall E (d + 2) (.func (.func 54) #[] #[]) [] s) fun r => zD E 3 m r.2 r.1 ZY (rdN 1 255) ∧ Ext [] s r.2 := by
 refine zp fun Q hQ => ?_
 rw [zj hintr hcode rfl]
 simp (maxDischargeDepth := 8) only [sA, pp, d54, hG]
 refine W.mono (XL hP (DS.new_good hG) _ _) ?_
 rintro ⟨v2, s2⟩ ⟨hv2, n1, n2, X2, hn2⟩
 simp only [DS.new_next] at hv2 n1 n2 X2 hn2
 subst hv2
 have T0 := X2.keep (DS.new_get_self (o := .cells (.list [.nilFunc, .nilFunc]) false) hG) (by simp)
 have wT := X2.wrs (show (s.new (.cells (.list [.nilFunc, .nilFunc]) false)).wr s.next = true from (hG _ (Nat.le_refl _)).2)
 simp (maxDischargeDepth := 8) only [sA, sM, zk, za, ze, Cells.get, getN, Nat.reduceAdd, zh, zg, DS.wrC, Cells.size, Cells.fillFrom, Cells.set, zA, DS.read, Cells.take, T0, wT]
 have X3 : ∀ o, Ext [] s (s2.upd s.next o) := fun o => (Ext.new.trans' X2).trans (Ext.upd (F := [s.next]) (.inl (by simp))) (by simp)
 refine hQ _ ⟨⟨_, _, _, _, _, _, [(s.next + 1, .cells (.list [.int .i64 ((1 : Nat) : Int)]) false), (s.next + 2, .cells (.list [.int .i64 255]) false)], rfl, ?_, ?_, QP hC (by omega) (by omega)⟩, X3 _⟩
 · intro p hp
   rcases List.mem_cons.1 hp with rfl | hp
   · simp (maxDischargeDepth := 8) only [sA, n1, show ¬ s.next + 1 = s.next by omega]
     rfl
   · rcases List.mem_cons.1 hp with rfl | hp
     · simp (maxDischargeDepth := 8) only [sA, n2, show ¬ s.next + 2 = s.next by omega]
     · cases hp
 · intro p hp
   have : m ≤ p.1 ∧ p.1 < s2.next := by
    rcases List.mem_cons.1 hp with rfl | hp
    · show m ≤ s.next + 1 ∧ s.next + 1 < s2.next; omega
    · rcases List.mem_cons.1 hp with rfl | hp
      · show m ≤ s.next + 2 ∧ s.next + 2 < s2.next; omega
      · cases hp
   simp (maxDischargeDepth := 8) only [DS.upd_next]
   exact this
theorem Ya (hG : s.Good) {m : Nat} (hm : m ≤ s.next) (hcode : E.fn 55 = some d55) (hintr : E.intr 55 = none) :
 W (dcall E (d + 2) (.func (.func 55) #[] #[]) [] s) fun r => zD E 3 m r.2 r.1 ZY (rdN 8 0) ∧ Ext [] s r.2 := by
 refine zp fun Q hQ => ?_
 rw [zj hintr hcode rfl]
 simp (maxDischargeDepth := 8) only [sA, pp, d55, hG]
 refine W.mono (XL hP (DS.new_good hG) _ _) ?_
 rintro ⟨v2, s2⟩ ⟨hv2, n1, n2, X2, hn2⟩
 simp only [DS.new_next] at hv2 n1 n2 X2 hn2
 subst hv2
 have T0 := X2.keep (DS.new_get_self (o := .cells (.list [.nilFunc, .nilFunc]) false) hG) (by simp)
 have wT := X2.wrs (show (s.new (.cells (.list [.nilFunc, .nilFunc]) false)).wr s.next = true from (hG _ (Nat.le_refl _)).2)
 simp (maxDischargeDepth := 8) only [sA, sM, zk, za, ze, Cells.get, getN, Nat.reduceAdd, zh, zg, DS.wrC, Cells.size, Cells.fillFrom, Cells.set, zA, DS.read, Cells.take, T0, wT]
 have X3 : ∀ o, Ext [] s (s2.upd s.next o) := fun o => (Ext.new.trans' X2).trans (Ext.upd (F := [s.next]) (.inl (by simp))) (by simp)
 refine hQ _ ⟨⟨_, _, _, _, _, _, [(s.next + 1, .cells (.list [.int .i64 ((8 : Nat) : Int)]) false), (s.next + 2, .cells (.list [.int .i64 0]) false)], rfl, ?_, ?_, QP hC (by omega) (by omega)⟩, X3 _⟩
 · intro p hp
   rcases List.mem_cons.1 hp with rfl | hp
   · simp (maxDischargeDepth := 8) only [sA, n1, show ¬ s.next + 1 = s.next by omega]
     rfl
   · rcases List.mem_cons.1 hp with rfl | hp
     · simp (maxDischargeDepth := 8) only [sA, n2, show ¬ s.next + 2 = s.next by omega]
     · cases hp
 · intro p hp
   have : m ≤ p.1 ∧ p.1 < s2.next := by
    rcases List.mem_cons.1 hp with rfl | hp
    · show m ≤ s.next + 1 ∧ s.next + 1 < s2.next; omega
    · rcases List.mem_cons.1 hp with rfl | hp
      · show m ≤ s.next + 2 ∧ s.next + 2 < s2.next; omega
      · cases hp
   simp (maxDischargeDepth := 8) only [DS.upd_next]
   exact this
theorem XO {α β : Type} {n m : Nat} (hm : m ≤ s.next) {va vb : Value} {Ra : Nat → DS → Value → α → Prop} {Rb : Nat → DS → Value → β → Prop} {ra : RS → α × RS} {rb : RS → β × RS}
 (hG : s.Good) (ha : zD E n m s va Ra ra) (hb : zD E n m s vb Rb rb) (hcode : E.fn 53 = some d53) (hintr : E.intr 53 = none)
 (hget : ∀ {f1 f2 : Nat} {fp fg gp gg : Value} {Df Dg : List (Nat × DObj)}, Zh E n fg Df Ra ra → Zh E n gg Dg Rb rb → Zh E (n + 1) (.func (.func 83) #[] #[.pointer (some ⟨f1, 0, none⟩), .pointer (some ⟨f2, 0, none⟩)]) ((f1, .cells (.list [fp, fg]) false) :: (f2, .cells (.list [gp, gg]) false) :: (Df ++ Dg)) (ZW Ra Rb) (rdP ra rb)) :
 W (dcall E (d + 1) (.func (.func 53) #[] #[]) [va, vb] s) fun r => zD E (n + 1) m r.2 r.1 (ZW Ra Rb) (rdP ra rb) ∧ Ext [] s r.2 := by
 obtain ⟨f1, a1, b1, g1, p1, q1, D1, rfl, h2, h3, h4⟩ := ha
 obtain ⟨f2, a2, b2, g2, p2, q2, D2, rfl, k2, k3, k4⟩ := hb
 refine zp fun Q hQ => ?_
 rw [zj hintr hcode rfl]
 simp (maxDischargeDepth := 8) only [sA, sM, zb, zk, zH, za, ze, Cells.get, getN, Nat.reduceAdd, zh, zg, Nat.reduceLeDiff, DS.wrC, Cells.size, Cells.fillFrom, Cells.set, zA, zi, pp, pv, pg, DS.read, Cells.take, Nat.reduceLT, d53, hG]
 have X : ∀ o1 o2 o3 o4, Ext [] s ((((s.new o1).new o2).new o3).upd (s.next + 2) o4) := fun _ _ _ _ => (Ext.new.trans' (Ext.new.trans' Ext.new)).trans (Ext.upd (F := [s.next + 2]) (.inl (by simp))) (by simp)
 refine hQ _ ⟨⟨_, _, _, _, _, _, _, rfl, ?_, ?_, hget (f1 := s.next) (f2 := s.next + 1) (fp := .func (.func f1) a1 b1) (gp := .func (.func f2) a2 b2) h4 k4⟩, X _ _ _ _⟩
 · intro p hp
   rcases List.mem_cons.1 hp with rfl | hp
   · simp (maxDischargeDepth := 8) only [sA, sM, Nat.reduceAdd, hG]
   · rcases List.mem_cons.1 hp with rfl | hp
     · simp (maxDischargeDepth := 8) only [sA, sM, Nat.reduceAdd, hG]
     · rcases List.mem_append.1 hp with hp | hp
       · exact (X _ _ _ _).keep (h2 p hp) (by simp)
       · exact (X _ _ _ _).keep (k2 p hp) (by simp)
 · intro p hp
   have hn : ∀ o1 o2 o3 o4, ((((s.new o1).new o2).new o3).upd (s.next + 2) o4).next = s.next + 3 := fun _ _ _ _ => by simp (maxDischargeDepth := 8) only [sA, Nat.reduceAdd, Nat.add_assoc]
   rw [hn]
   rcases List.mem_cons.1 hp with rfl | hp
   · show m ≤ s.next ∧ s.next < s.next + 3; omega
   · rcases List.mem_cons.1 hp with rfl | hp
     · show m ≤ s.next + 1 ∧ s.next + 1 < s.next + 3; omega
     · rcases List.mem_append.1 hp with hp | hp
       · have := h3 p hp; omega
       · have := k3 p hp; omega
theorem Vf {α β : Type} {n m : Nat} (hm : m ≤ s.next) {va vb : Value} {Ra : Nat → DS → Value → α → Prop} {Rb : Nat → DS → Value → β → Prop} {ra : RS → α × RS} {rb : RS → β × RS}
 (hG : s.Good) (ha : zD E n m s va Ra ra) (hb : zD E n m s vb Rb rb) (hcode : E.fn 61 = some d61) (hintr : E.intr 61 = none)
 (hget : ∀ {f1 f2 : Nat} {fp fg gp gg : Value} {Df Dg : List (Nat × DObj)}, Zh E n fg Df Ra ra → Zh E n gg Dg Rb rb → Zh E (n + 1) (.func (.func 99) #[] #[.pointer (some ⟨f1, 0, none⟩), .pointer (some ⟨f2, 0, none⟩)]) ((f1, .cells (.list [fp, fg]) false) :: (f2, .cells (.list [gp, gg]) false) :: (Df ++ Dg)) (ZW Ra Rb) (rdP ra rb)) :
 W (dcall E (d + 1) (.func (.func 61) #[] #[]) [va, vb] s) fun r => zD E (n + 1) m r.2 r.1 (ZW Ra Rb) (rdP ra rb) ∧ Ext [] s r.2 := by
 obtain ⟨f1, a1, b1, g1, p1, q1, D1, rfl, h2, h3, h4⟩ := ha
 obtain ⟨f2, a2, b2, g2, p2, q2, D2, rfl, k2, k3, k4⟩ := hb
 refine zp fun Q hQ => ?_
 rw [zj hintr hcode rfl]
 simp (maxDischargeDepth := 8) only [sA, sM, zb, zk, zH, za, ze, Cells.get, getN, Nat.reduceAdd, zh, zg, Nat.reduceLeDiff, DS.wrC, Cells.size, Cells.fillFrom, Cells.set, zA, zi, pp, pv, pg, DS.read, Cells.take, Nat.reduceLT, d61, hG]
 have X : ∀ o1 o2 o3 o4, Ext [] s ((((s.new o1).new o2).new o3).upd (s.next + 2) o4) := fun _ _ _ _ => (Ext.new.trans' (Ext.new.trans' Ext.new)).trans (Ext.upd (F := [s.next + 2]) (.inl (by simp))) (by simp)
 refine hQ _ ⟨⟨_, _, _, _, _, _, _, rfl, ?_, ?_, hget (f1 := s.next) (f2 := s.next + 1) (fp := .func (.func f1) a1 b1) (gp := .func (.func f2) a2 b2) h4 k4⟩, X _ _ _ _⟩
 · intro p hp
   rcases List.mem_cons.1 hp with rfl | hp
   · simp (maxDischargeDepth := 8) only [sA, sM, Nat.reduceAdd, hG]
   · rcases List.mem_cons.1 hp with rfl | hp
     · simp (maxDischargeDepth := 8) only [sA, sM, Nat.reduceAdd, hG]
     · rcases List.mem_append.1 hp with hp | hp
       · exact (X _ _ _ _).keep (h2 p hp) (by simp)
       · exact (X _ _ _ _).keep (k2 p hp) (by simp)
 · intro p hp
   have hn : ∀ o1 o2 o3 o4, ((((s.new o1).new o2).new o3).upd (s.next + 2) o4).next = s.next + 3 := fun _ _ _ _ => by simp (maxDischargeDepth := 8) only [sA, Nat.reduceAdd, Nat.add_assoc]
   rw [hn]
   rcases List.mem_cons.1 hp with rfl | hp
   · show m ≤ s.next ∧ s.next < s.next + 3; omega
   · rcases List.mem_cons.1 hp with rfl | hp
     · show m ≤ s.next + 1 ∧ s.next + 1 < s.next + 3; omega
     · rcases List.mem_append.1 hp with hp | hp
       · have := h3 p hp; omega
       · have := k3 p hp; omega
theorem Ve {α β : Type} {n m : Nat} (hm : m ≤ s.next) {va vb : Value} {Ra : Nat → DS → Value → α → Prop} {Rb : Nat → DS → Value → β → Prop} {ra : RS → α × RS} {rb : RS → β × RS}
 (hG : s.Good) (ha : zD E n m s va Ra ra) (hb : zD E n m s vb Rb rb) (hcode : E.fn 63 = some d63) (hintr : E.intr 63 = none)
 (hget : ∀ {f1 f2 : Nat} {fp fg gp gg : Value} {Df Dg : List (Nat × DObj)}, Zh E n fg Df Ra ra → Zh E n gg Dg Rb rb → Zh E (n + 1) (.func (.func 104) #[] #[.pointer (some ⟨f1, 0, none⟩), .pointer (some ⟨f2, 0, none⟩)]) ((f1, .cells (.list [fp, fg]) false) :: (f2, .cells (.list [gp, gg]) false) :: (Df ++ Dg)) (ZW Ra Rb) (rdP ra rb)) :
 W (dcall E (d + 1) (.func (.func 63) #[] #[]) [va, vb] s) fun r => zD E (n + 1) m r.2 r.1 (ZW Ra Rb) (rdP ra rb) ∧ Ext [] s r.2 := by
 obtain ⟨f1, a1, b1, g1, p1, q1, D1, rfl, h2, h3, h4⟩ := ha
 obtain ⟨f2, a2, b2, g2, p2, q2, D2, rfl, k2, k3, k4⟩ := hb
 refine zp fun Q hQ => ?_
 rw [zj hintr hcode rfl]
 simp (maxDischargeDepth := 8) only [sA, sM, zb, zk, zH, za, ze, Cells.get, getN, Nat.reduceAdd, zh, zg, Nat.reduceLeDiff, DS.wrC, Cells.size, Cells.fillFrom, Cells.set, zA, zi, pp, pv, pg, DS.read, Cells.take, Nat.reduceLT, d63, hG]
 have X : ∀ o1 o2 o3 o4, Ext [] s ((((s.new o1).new o2).new o3).upd (s.next + 2) o4) := fun _ _ _ _ => (Ext.new.trans' (Ext.new.trans' Ext.new)).trans (Ext.upd (F := [s.next + 2]) (.inl (by simp))) (by simp)
 refine hQ _ ⟨⟨_, _, _, _, _, _, _, rfl, ?_, ?_, hget (f1 := s.next) (f2 := s.next + 1) (fp := .func (.func f1) a1 b1) (gp := .func (.func f2) a2 b2) h4 k4⟩, X _ _ _ _⟩
 · intro p hp
   rcases List.mem_cons.1 hp with rfl | hp
   · simp (maxDischargeDepth := 8) only [sA, sM, Nat.reduceAdd, hG]
   · rcases List.mem_cons.1 hp with rfl | hp
     · simp (maxDischargeDepth := 8) only [sA, sM, Nat.reduceAdd, hG]
     · rcases List.mem_append.1 hp with hp | hp
       · exact (X _ _ _ _).keep (h2 p hp) (by simp)
       · exact (X _ _ _ _).keep (k2 p hp) (by simp)
 · intro p hp
   have hn : ∀ o1 o2 o3 o4, ((((s.new o1).new o2).new o3).upd (s.next + 2) o4).next = s.next + 3 := fun _ _ _ _ => by simp (maxDischargeDepth := 8) only [sA, Nat.reduceAdd, Nat.add_assoc]
   rw [hn]
   rcases List.mem_cons.1 hp with rfl | hp
   · show m ≤ s.next ∧ s.next < s.next + 3; omega
   · rcases List.mem_cons.1 hp with rfl | hp
     · show m ≤ s.next + 1 ∧ s.next + 1 < s.next + 3; omega
     · rcases List.mem_append.1 hp with hp | hp
       · have := h3 p hp; omega
       · have := k3 p hp; omega
theorem Vg {α β : Type} {n m : Nat} (hm : m ≤ s.next) {va vb : Value} {Ra : Nat → DS → Value → α → Prop} {Rb : Nat → DS → Value → β → Prop} {ra : RS → α × RS} {rb : RS → β × RS}
 (hG : s.Good) (ha : zD E n m s va Ra ra) (hb : zD E n m s vb Rb rb) (hcode : E.fn 60 = some d60) (hintr : E.intr 60 = none)
 (hget : ∀ {f1 f2 : Nat} {fp fg gp gg : Value} {Df Dg : List (Nat × DObj)}, Zh E n fg Df Ra ra → Zh E n gg Dg Rb rb → Zh E (n + 1) (.func (.func 97) #[] #[.pointer (some ⟨f1, 0, none⟩), .pointer (some ⟨f2, 0, none⟩)]) ((f1, .cells (.list [fp, fg]) false) :: (f2, .cells (.list [gp, gg]) false) :: (Df ++ Dg)) (ZW Ra Rb) (rdP ra rb)) :
 W (dcall E (d + 1) (.func (.func 60) #[] #[]) [va, vb] s) fun r => zD E (n + 1) m r.2 r.1 (ZW Ra Rb) (rdP ra rb) ∧ Ext [] s r.2 := by
 obtain ⟨f1, a1, b1, g1, p1, q1, D1, rfl, h2, h3, h4⟩ := ha
 obtain ⟨f2, a2, b2, g2, p2, q2, D2, rfl, k2, k3, k4⟩ := hb
 refine zp fun Q hQ => ?_
 rw [zj hintr hcode rfl]
 simp (maxDischargeDepth := 8) only [sA, sM, zb, zk, zH, za, ze, Cells.get, getN, Nat.reduceAdd, zh, zg, Nat.reduceLeDiff, DS.wrC, Cells.size, Cells.fillFrom, Cells.set, zA, zi, pp, pv, pg, DS.read, Cells.take, Nat.reduceLT, d60, hG]
 have X : ∀ o1 o2 o3 o4, Ext [] s ((((s.new o1).new o2).new o3).upd (s.next + 2) o4) := fun _ _ _ _ => (Ext.new.trans' (Ext.new.trans' Ext.new)).trans (Ext.upd (F := [s.next + 2]) (.inl (by simp))) (by simp)
 refine hQ _ ⟨⟨_, _, _, _, _, _, _, rfl, ?_, ?_, hget (f1 := s.next) (f2 := s.next + 1) (fp := .func (.func f1) a1 b1) (gp := .func (.func f2) a2 b2) h4 k4⟩, X _ _ _ _⟩
 · intro p hp
   rcases List.mem_cons.1 hp with rfl | hp
   · simp (maxDischargeDepth := 8) only [sA, sM, Nat.reduceAdd, hG]
   · rcases List.mem_cons.1 hp with rfl | hp
     · simp (maxDischargeDepth := 8) only [sA, sM, Nat.reduceAdd, hG]
     · rcases List.mem_append.1 hp with hp | hp
       · exact (X _ _ _ _).keep (h2 p hp) (by simp)
       · exact (X _ _ _ _).keep (k2 p hp) (by simp)
 · intro p hp
   have hn : ∀ o1 o2 o3 o4, ((((s.new o1).new o2).new o3).upd (s.next + 2) o4).next = s.next + 3 := fun _ _ _ _ => by simp (maxDischargeDepth := 8) only [sA, Nat.reduceAdd, Nat.add_assoc]
   rw [hn]
   rcases List.mem_cons.1 hp with rfl | hp
   · show m ≤ s.next ∧ s.next < s.next + 3; omega
   · rcases List.mem_cons.1 hp with rfl | hp
     · show m ≤ s.next + 1 ∧ s.next + 1 < s.next + 3; omega
     · rcases List.mem_append.1 hp with hp | hp
       · have := h3 p hp; omega
       · have := k3 p hp; omega
theorem FL (hG : s.Good) {m : Nat} (hm : m ≤ s.next) (hflag : E.fn 62 = some d62) (iflag : E.intr 62 = none) (htu : E.fn 100 = some d100) (itu : E.intr 100 = none)
 (ht : E.fn 125 = some d125) (it : E.intr 125 = none) (h1 : E.fn 102 = some d102) (i1 : E.intr 102 = none) (hfr : ∀ d, zG (dcall E d)) :
 W (dcall E (d + 2) (.func (.func 62) #[] #[]) [] s) fun r => zD E 4 m r.2 r.1 Fc rdF ∧ Ext [] s r.2 := by
 refine zp fun Q hQ => ?_
 rw [zj iflag hflag rfl]
 simp (maxDischargeDepth := 8) only [sA, pp, d62, hG]
 obtain ⟨S, hS⟩ : ∃ S : DS, S = s.new (.cells (.list [.nilFunc, .nilFunc]) false) := ⟨_, rfl⟩
 rw [← hS]
 have XS : Ext [] s S := by rw [hS]; exact Ext.new
 have nS : S.next = s.next + 1 := by rw [hS]; simp (maxDischargeDepth := 8) only [z8]
 have hGS := XS.good hG
 have S0 : S.get s.next = some (.cells (.list [.nilFunc, .nilFunc]) false) := by rw [hS]; simp (maxDischargeDepth := 8) only [ZD, hG]
 have wS : S.wr s.next = true := XS.wrs (hG _ (Nat.le_refl _)).2
 clear hS
 refine W.mono (XL hP (d := d) hGS 1 1) ?_
 rintro ⟨v2, s2⟩ ⟨hv2, n1, n2, X2, hn2⟩
 simp only at hv2 n1 n2 X2 hn2
 subst hv2
 have hG2 := X2.good hGS
 have T0 := X2.keep S0 (by simp)
 have wT := X2.wrs wS
 rw [nS] at n1 n2 hn2 ⊢
 have hturn : ∀ f g : Value, W (dcall E (d + 1) (.func (.func 100) #[] #[]) [.agg ⟨[f, g]⟩, .func (.func 101) #[] #[], .func (.func 102) #[] #[]] s2) fun r => r.1 = .agg ⟨[.func (.func 124) #[] #[.pointer (some ⟨s2.next, 0, none⟩), .pointer (some ⟨s2.next + 1, 0, none⟩)], .func (.func 125) #[] #[.pointer (some ⟨s2.next + 2, 0, none⟩), .pointer (some ⟨s2.next, 0, none⟩)]]⟩ ∧
  r.2.get s2.next = some (.cells (.list [f, g]) false) ∧ r.2.get (s2.next + 2) = some (.cells (.list [.func (.func 102) #[] #[]]) false) ∧ Ext [] s2 r.2 ∧ r.2.next = s2.next + 4 := by
  intro f g
  refine zp fun Q hQ => ?_
  rw [zj itu htu rfl]
  simp (maxDischargeDepth := 8) only [sA, sM, zk, za, ze, Cells.get, getN, Nat.reduceAdd, zh, zg, Nat.reduceLeDiff, DS.wrC, Cells.size, Cells.fillFrom, Cells.set, zA, zi, pp, DS.read, Cells.take, Nat.reduceLT, d100, hG2]
  refine hQ _ ⟨rfl, ?_, ?_, ?_, ?_⟩
  · simp (maxDischargeDepth := 8) only [sA, sM, Nat.reduceAdd, hG2]
  · simp (maxDischargeDepth := 8) only [sA, sM, Nat.reduceAdd, hG2]
  · exact (Ext.new.trans' (Ext.new.trans' (Ext.new.trans' Ext.new))).trans (Ext.upd (F := [s2.next + 3]) (.inl (by simp))) (by simp)
  · simp (maxDischargeDepth := 8) only [sA, Nat.reduceAdd, Nat.add_assoc]
 simp only [sA]
 refine W.mono (hturn _ _) ?_
 rintro ⟨v3, s3⟩ ⟨hv3, m1, m2, X3, hn3⟩
 simp only at hv3 m1 m2 X3 hn3
 subst hv3
 have U0 := X3.keep T0 (by simp)
 have wU := X3.wrs wT
 have k1 := X3.keep n1 (by simp)
 have k2 := X3.keep n2 (by simp)
 simp only [sA, zk, za, ze, Cells.get, getN, Nat.reduceAdd, zh, zg, reduceCtorEq, DS.wrC, Cells.size, Cells.fillFrom, Cells.set, zA, DS.read, Cells.take, U0, wU]
 have X4 : ∀ o, Ext [] s (s3.upd s.next o) := fun o => (XS.trans' (X2.trans' X3)).trans (Ext.upd (F := [s.next]) (.inl (by simp))) (by simp)
 refine hQ _ ⟨⟨_, _, _, _, _, _, (s2.next + 2, .cells (.list [.func (.func 102) #[] #[]]) false) :: (s2.next, .cells (.list [.func (.func 120) #[] #[.pointer (some ⟨s.next + 1, 0, none⟩), .pointer (some ⟨s.next + 1 + 1, 0, none⟩)], .func (.func 122) #[] #[.pointer (some ⟨s.next + 1, 0, none⟩), .pointer (some ⟨s.next + 1 + 1, 0, none⟩)]]) false) :: [(s.next + 1, .cells (.list [.int .i64 ((1 : Nat) : Int)]) false), (s.next + 1 + 1, .cells (.list [.int .i64 1]) false)], rfl, ?_, ?_, DB (QP hC (b1 := s.next + 1) (b2 := s.next + 1 + 1) (size := 1) (most := 1) (by omega) (by omega)) (by omega) hfr ht it h1 i1⟩, X4 _⟩
 · intro p hp
   rcases List.mem_cons.1 hp with rfl | hp
   · simp (maxDischargeDepth := 8) only [sA, m2, show ¬ s2.next + 2 = s.next by omega]
   · rcases List.mem_cons.1 hp with rfl | hp
     · simp (maxDischargeDepth := 8) only [sA, Nat.reduceAdd, Nat.add_assoc, m1, show ¬ s2.next = s.next by omega]
     · rcases List.mem_cons.1 hp with rfl | hp
       · simp (maxDischargeDepth := 8) only [sA, k1, show ¬ s.next + 1 = s.next by omega]
         rfl
       · rcases List.mem_cons.1 hp with rfl | hp
         · simp (maxDischargeDepth := 8) only [sA, Nat.reduceAdd, Nat.add_assoc, k2, show ¬ s.next + 1 + 1 = s.next by omega]
         · cases hp
 · intro p hp
   have hfin : m ≤ p.1 ∧ p.1 < s3.next := by
    rcases List.mem_cons.1 hp with rfl | hp
    · show m ≤ s2.next + 2 ∧ s2.next + 2 < s3.next; omega
    · rcases List.mem_cons.1 hp with rfl | hp
      · show m ≤ s2.next ∧ s2.next < s3.next; omega
      · rcases List.mem_cons.1 hp with rfl | hp
        · show m ≤ s.next + 1 ∧ s.next + 1 < s3.next; omega
        · rcases List.mem_cons.1 hp with rfl | hp
          · show m ≤ s.next + 1 + 1 ∧ s.next + 1 + 1 < s3.next; omega
          · cases hp
   simp (maxDischargeDepth := 8) only [DS.upd_next]
   exact hfin
end
end Go.Dx.TbA
