/- The two readings, and the law. -/
import Derived.Test.YtnmajohhfcgddaaS1Cd
import Derived.Test.YtnmajohhfcgddaaDxIn
import Derived.Test.YtnmajohhfcgddaaS1Pk
import Derived.Test.YtnmajohhfcgddaaDxTopM
/- How codes are read: what the functions of codec do (made by tools/gen.py out of codecg.t). -/
set_option linter.unusedVariables false
set_option linter.unusedSimpArgs false
set_option linter.unusedSectionVars false
set_option maxRecDepth 100000
set_option maxHeartbeats 4000000
namespace Go.Dx.StA
open Go Go.Dx Go.Proofs.Ytnmajohhfcgddaa

/-- a pair: the cells of both -/
def gepP {α β : Type} (Ra : Nat → DS → Value → α → Prop) (Rb : Nat → DS → Value → β → Prop) (o : Nat) (s : DS) (v : Value) (x : α × β) : Prop := ∃ a b : Value, v = .agg ⟨a.cells.toList ++ b.cells.toList⟩ ∧ Ra o s a x.1 ∧ Rb o s b x.2
theorem gepP_ok {α β : Type} {Ra : Nat → DS → Value → α → Prop} {Rb : Nat → DS → Value → β → Prop} (ha : GepOk Ra) (hb : GepOk Rb) : GepOk (gepP Ra Rb) :=
  ⟨fun n s s' v x F ⟨a, b, e, h1, h2⟩ X hF => ⟨a, b, e, ha.stab _ _ _ _ _ _ h1 X hF, hb.stab _ _ _ _ _ _ h2 X hF⟩, fun n n' s v x ⟨a, b, e, h1, h2⟩ hn => ⟨a, b, e, ha.mono _ _ _ _ _ h1 hn, hb.mono _ _ _ _ _ h2 hn⟩⟩
/-- a slice of rows, each of its own cells -/
def gepL {α : Type} (sz : Nat) (row : α → List Value) (n : Nat) (s : DS) (v : Value) (xs : List α) : Prop := SlC s sz v (xs.map row) ∧ ∀ k, k ∈ blk v → n ≤ k
theorem gepL_ok {α : Type} {sz : Nat} {row : α → List Value} : GepOk (gepL sz row) :=
  ⟨fun n s s' v x F h X hF => ⟨h.1.keep X fun k hk hf => by have := h.2 k hk; have := hF k hf; omega, h.2⟩, fun n n' s v x h hn => ⟨h.1, fun k hk => Nat.le_trans hn (h.2 k hk)⟩⟩
structure GFns (E : Env) : Prop where
  ftake : E.fn 101 = some d101
  itake : E.intr 101 = none
  fglow : E.fn 95 = some d95
  iglow : E.intr 95 = none
  fnum2 : E.fn 94 = some d94
  inum2 : E.intr 94 = none
  lf : 10000 ≤ E.lf
theorem SlR.cell {s : DS} {v : Value} {l : List Int} (h : SlR s v l) (hl : l ≠ []) : ∃ b off sp c cc ro, v = .slice (some ⟨b, off, sp⟩) l.length c ∧ s.get b = some (.cells cc ro) ∧ ∀ i x, l[i]? = some x → cc.get (off + i) = some (.int .u8 x) := by
  rcases h with ⟨_, rfl⟩ | ⟨b, off, sp, c, rfl, h1, h2, h3⟩
  · exact absurd rfl hl
  · unfold DS.read at h3
    split at h3
    · rename_i cc ro hg
      obtain ⟨_, h4⟩ := take_get h3
      refine ⟨b, off, sp, c, cc, ro, rfl, hg, fun i x hx => ?_⟩
      rw [h4 i (List.getElem?_eq_some_iff.1 hx).1]
      unfold u8s
      rw [List.getElem?_map, hx]
      rfl
    · cases h3
/-- a whole number as itself -/
def repI' (_ : Nat) (_ : DS) (v : Value) (x : Int) : Prop := v = .int .i64 x
theorem repI'_ok : GepOk repI' := ⟨fun _ _ _ _ _ _ h _ _ => h, fun _ _ _ _ _ h _ => h⟩
theorem pow_le7 {j : Nat} (hj : j ≤ 7) : (256 : Int) ^ j ≤ 72057594037927936 := by
  match j, hj with
  | 0, _ | 1, _ | 2, _ | 3, _ | 4, _ | 5, _ | 6, _ | 7, _ => decide
  | _ + 8, h => omega
structure GLowI (s1 : DS) (r : Nat) (w : Value) (size : Nat) (most : Int) (l : List Int) (n : Nat) (y : St) : Prop where
  ex : ∃ j : Nat, n = l.length - j ∧ j ≤ l.length ∧ y.s = s1 ∧ y.defers = [] ∧ (y.t.get 0 = some (.pointer (some ⟨r, 0, none⟩)) ∧ y.t.get 1 = some (.int .i64 (size : Int)) ∧ y.t.get 2 = some (.int .i64 most) ∧ y.t.get 7 = some (.int .u64 (leV (l.take j))) ∧ y.t.get 12 = some w ∧ y.t.get 13 = some (.int .i64 (l.length : Int)) ∧ y.t.get 14 = some (.int .i64 (j : Int)))
section
variable {E : Env} (hC : GFns E) {s : DS} {r : Nat} {bv : Value} {bs : List Int} {bad : Bool} {d : Nat}
include hC
theorem take_ok (h : InAt s r bv bs bad) (hG : s.Good) (hl : bs.length ≤ 1048576) (n : Nat) (hn : n ≤ 65536) :
    W (dcall E (d + 1) (.func (.func 101) #[] #[]) [.pointer (some ⟨r, 0, none⟩), .int .i64 (n : Int)] s) fun p => ∃ bv', SlR p.2 p.1 (tk n (bs, bad)).1 ∧ InAt p.2 r bv' (tk n (bs, bad)).2.1 (tk n (bs, bad)).2.2 ∧ Ext [r] s p.2 ∧ (∀ k, k ∈ blk bv' → k ∈ blk bv) ∧ ∀ k, k ∈ blk p.1 → k ∈ blk bv := by
  have gr := h.gr
  have wr := h.wr
  have hrl := DS.get_lt' gr
  obtain ⟨ba, bc, hbv⟩ := h.sl.len
  refine W_cps fun Q hQ => ?_
  rw [W_enter0 hC.itake hC.ftake rfl]
  have e1 : ¬ (n : Int) < 0 := by omega
  have X : ∀ o, Ext [r] s (s.upd r o) := fun o => Ext.upd (.inl (by simp))
  have fail : tk n (bs, bad) = ([], (bs, true)) → Q (.slice none 0 0, s.upd r (.cells (.list [bv, .bool true]) false)) := by
    intro ht
    rw [ht] at hQ
    refine hQ _ ⟨bv, .inl ⟨rfl, rfl⟩, ⟨by rw [DS.upd_get_self, gr]; rfl, by rw [DS.upd_wr]; exact wr, h.sl.keep (X _) (fun k hk e => ?_), h.ne⟩, X _, fun k hk => hk, fun k hk => by simp [blk] at hk⟩
    have e := List.mem_singleton.1 e
    subst e
    exact h.ne hk
  cases bad with
  | true =>
    have := fail (by unfold tk; rw [if_pos (.inl rfl)])
    simp (maxSteps := 4000000) only [WC_seq, WC_region, WC_cond, WC_ret, contS_normal, contS_ret, contR_ap, WO_nil, WO_pp, WO_g, gateO_tf, condC_true, contO_ap, atS_ap, atD_ap, W_some, W_mv, W_pick, W_nilck, W_fadr, W_ld, W_st, dpure, Ends_ret, ev_tmp, ev_const, putT_some, putT_none, get_put_eq, get_put_ne, Nat.reduceEqDiff, not_false_eq_true, ofList_get, List.getElem?_cons_zero, Option.getD_some, dresults, tupled, ldV_at, Cells.get, getN, Nat.zero_add, Nat.reduceAdd, st_wr, cells_bool, List.length_cons, List.length_nil, allOne, oneCellD, Bool.and_self, Bool.and_true, Nat.beq_eq, Nat.ble_eq, Nat.le_refl, if_true, if_false, reduceCtorEq, Bool.false_eq_true, DS.wrC, Cells.size, Cells.fillFrom, Cells.set, setN, List.nil_append, pp, pv, pw, pg, d101, gr, wr]
    exact this
  | false =>
    by_cases c1 : bs.length < n
    · have := fail (by unfold tk; rw [if_pos (.inr c1)])
      have e2 : (bs.length : Int) < (n : Int) := by omega
      subst hbv
      simp (maxSteps := 4000000) only [WC_seq, WC_region, WC_cond, WC_ret, contS_normal, contS_ret, contR_ap, WO_nil, WO_pp, WO_g, gateO_ff, condC_true, contO_ap, atS_ap, atD_ap, W_some, W_mv, W_pick, W_bin, W_nilck, W_fadr, W_blenL, W_ld, W_st, dpure, dbin, dint, Ends_ret, ev_tmp, ev_const, putT_some, putT_none, get_put_eq, get_put_ne, Nat.reduceEqDiff, not_false_eq_true, ofList_get, List.getElem?_cons_zero, List.getElem?_cons_succ, Option.getD_some, dresults, tupled, ldV_at, Cells.get, getN, Nat.zero_add, Nat.reduceAdd, st_wr, cells_bool, List.length_cons, List.length_nil, allOne, oneCellD, Bool.and_self, Bool.and_true, Nat.beq_eq, Nat.ble_eq, Nat.le_refl, if_true, if_false, reduceCtorEq, Bool.false_eq_true, DS.wrC, Cells.size, Cells.fillFrom, Cells.set, setN, pp, pv, pw, pg, Nat.add_zero, decide_true, decide_false, d101, gr, wr, e1, e2]
      exact this
    · have ht : tk n (bs, false) = (bs.take n, (bs.drop n, false)) := by unfold tk; rw [if_neg (by simp; omega)]
      rw [ht] at hQ
      have e2 : ¬ (bs.length : Int) < (n : Int) := by omega
      obtain ⟨w1, hw1, r1, b1⟩ := h.sl.take (i := n) (by omega)
      obtain ⟨w2, hw2, r2, b2⟩ := h.sl.drop (i := n) (by omega)
      have hd : ∀ k, k ∈ blk bv → k ∉ [r] := fun k hk e => h.ne (List.mem_singleton.1 e ▸ hk)
      have fin : Q (w1, s.upd r (.cells (.list [w2, .bool false]) false)) :=
        hQ _ ⟨w2, r1.keep (X _) fun k hk => hd k (b1 k hk), ⟨by rw [DS.upd_get_self, gr]; rfl, by rw [DS.upd_wr]; exact wr, r2.keep (X _) fun k hk => hd k (b2 k hk), fun hk => h.ne (b2 _ hk)⟩, X _, b2, b1⟩
      obtain ⟨a2, c2, h2⟩ := r2.len
      subst h2
      subst hbv
      simp (maxSteps := 4000000) only [WC_seq, WC_region, WC_cond, WC_skip, WC_ret, contS_normal, contR_ap, WO_nil, WO_pp, WO_g, gateO_ff, condC_false, contO_ap, atS_ap, atD_ap, W_some, W_mv, W_pick, W_bin, W_nilck, W_fadr, W_blenL, W_ld, W_st, dpure, dbin, dint, Ends_ret, ev_tmp, ev_const, putT_some, putT_none, get_put_eq, get_put_ne, Nat.reduceEqDiff, not_false_eq_true, ofList_get, List.getElem?_cons_zero, List.getElem?_cons_succ, Option.getD_some, dresults, tupled, ldV_at, Cells.get, getN, Nat.zero_add, Nat.reduceAdd, st_wr, cells_slice, List.length_cons, List.length_nil, allOne, oneCellD, Bool.and_self, Bool.and_true, Nat.beq_eq, Nat.ble_eq, Nat.reduceLeDiff, if_true, if_false, reduceCtorEq, Bool.false_eq_true, DS.wrC, Cells.size, Cells.fillFrom, Cells.set, setN, pp, pv, pw, pg, Option.map_some, W_slV, Option.map_none, Nat.add_zero, decide_false, d101, gr, wr, e1, e2, hw1, hw2]
      exact fin
theorem glow_ok (h : InAt s r bv bs bad) (hG : s.Good) (hB : IsB bs) (hl : bs.length ≤ 1048576) {size : Nat} (hs : size ≤ 8) {most : Int} (hm : 0 ≤ most) :
    W (dcall E (d + 2) (.func (.func 95) #[] #[]) [.pointer (some ⟨r, 0, none⟩), .int .i64 (size : Int), .int .i64 most] s) (GetQ s r bv repI' (rdN size most (bs, bad))) := by
  have hlf := hC.lf
  refine W_cps fun Q hQ => ?_
  rw [W_enter0 hC.iglow hC.fglow rfl]
  simp (maxSteps := 4000000) only [WC_seq, WC_region, contS_normal, contR_ap, WO_nil, WO_pp, contO_ap, W_mv, W_call, ev_tmp, ev_const, ev_func, putT_some, get_put_eq, get_put_ne, Nat.reduceEqDiff, not_false_eq_true, ofList_get, List.getElem?_cons_zero, List.getElem?_cons_succ, Option.getD_some, List.map_cons, List.map_nil, reduceCtorEq, pp, pv, pw, pg, d95]
  refine W.mono (take_ok hC h hG hl size (by omega)) ?_
  rintro ⟨w, s1⟩ ⟨bv', hw, hin, X1, hb1, hb2⟩
  simp only at hw hin X1 hb1 hb2
  obtain ⟨ll, hll⟩ : ∃ ll, ll = (tk size (bs, bad)).1 := ⟨_, rfl⟩
  have hlB : IsB ll := by
    rw [hll]
    unfold tk
    split
    · exact fun b hb => nomatch hb
    · exact hB.take size
  have hls : ll.length ≤ size := by
    rw [hll]
    unfold tk
    split
    · exact Nat.zero_le _
    · rw [List.length_take]; exact Nat.min_le_left ..
  rw [← hll] at hw
  obtain ⟨wa, wc, hwv⟩ := hw.len
  have gr := hin.gr
  have wr := hin.wr
  subst hwv
  simp (maxSteps := 4000000) only [WC_block, contS_normal, contR_ap, WO_nil, WO_pp, contO_ap, atS_ap, W_some, W_mv, W_blenL, dpure, ev_tmp, ev_const, putT_some, get_put_eq, Option.getD_some]
  refine WC_loop (GLowI s1 r (.slice wa ll.length wc) size most ll) ll.length (by omega) ⟨0, rfl, Nat.zero_le _, rfl, rfl, by simp (maxSteps := 4000000) only [get_put_eq, get_put_ne, Nat.reduceEqDiff, not_false_eq_true, ofList_get, List.getElem?_cons_zero, List.getElem?_cons_succ, Bool.true_and, true_and, reduceCtorEq, List.take_zero]; exact ⟨rfl, rfl⟩⟩ ?_
  rintro n ⟨t, s2, ds⟩ hn ⟨j, rfl, hj, hs2, hds, ⟨g0, g1, g2, g7, g12, g13, g14⟩⟩
  simp only at hs2 hds g0 g1 g2 g7 g12 g13 g14
  subst hs2 hds
  by_cases c1 : j < ll.length
  · have hx : ll[j]? = some ll[j] := List.getElem?_eq_getElem c1
    generalize ll[j] = x at hx
    have e1 : (j : Int) < (ll.length : Int) := by omega
    obtain ⟨b, off, sp, c, cc, ro, hv', hgb, hcc⟩ := SlR.cell hw (fun e => by rw [e] at c1; simp at c1)
    have hcx := hcc j x hx
    simp only [Cells.get] at hcx
    have hxr := hlB x (List.mem_of_getElem? hx)
    have hr := leV_range (hlB.take j)
    have hlt : (ll.take j).length = j := by rw [List.length_take]; omega
    rw [hlt] at hr
    have hor := or_top (j := j) (by omega) hr hxr
    have hsn : leV (ll.take (j + 1)) = leV (ll.take j) + 256 ^ j * x := by
      rw [List.take_add_one, hx]
      show leV (ll.take j ++ [x]) = _
      rw [leV_snoc, hlt]
    have w2 : dwrap .i64 ((j : Int) + 1) = ((j + 1 : Nat) : Int) := by rw [dwrap_in (by omega) (by omega)]; omega
    have w3 : dwrap .i64 (8 * (j : Int)) = ((8 * j : Nat) : Int) := by rw [dwrap_in (by omega) (by omega)]; omega
    have w4 : dwrap .u64 x = x := dwrap_u64 hxr.1 (by omega)
    have hsh : dshift .shl .u64 x ((8 * j : Nat) : Int) = some (.int .u64 (256 ^ j * x)) := by
      unfold dshift
      rw [if_neg (by omega)]
      have hble : Nat.ble (bitsOf .u64) (8 * j) = false := by
        rw [← Bool.not_eq_true, Nat.ble_eq]
        show ¬ 64 ≤ _
        omega
      simp only [Int.toNat_natCast, hble, Bool.false_eq_true, if_false, hor.1]
    injection hv' with hv1 hv2 hv3
    subst hv1 hv3
    simp (maxSteps := 4000000) only [WC_seq, WC_region, WC_cond, WC_block, WC_skip, contS_normal, contB_normal, contR_ap, contL_normal, WO_nil, WO_pp, condC_true, contO_ap, atS_ap, W_some, W_mv, W_bin, W_cvInt, W_ixL, W_ld, dpure, dbin, dint, ev_tmp, ev_const, putT_some, get_put_eq, get_put_ne, Nat.reduceEqDiff, not_false_eq_true, Option.getD_some, ldV_at, Cells.get, Nat.blt_eq, if_true, asIdx_cast, Nat.mul_one, decide_true, g0, g1, g2, g7, g12, g13, g14, hgb, hcx, e1, c1, w2, w3, w4, hsh, hor.2]
    refine ⟨ll.length - (j + 1), by omega, ⟨j + 1, rfl, by omega, rfl, rfl, by simp (maxSteps := 4000000) only [get_put_eq, get_put_ne, Nat.reduceEqDiff, not_false_eq_true, Bool.and_self, and_self, reduceCtorEq, g0, g1, g2, g12, g13, hsn]⟩⟩
  · have hj' : j = ll.length := by omega
    have e1 : ¬ (j : Int) < (ll.length : Int) := by omega
    rw [hj', List.take_length] at g7
    have hrv := leV_range hlB
    have hi : size < 8 → dwrap .i64 (leV ll) = leV ll := fun h8 => by
      have h7 := pow_le7 (j := ll.length) (by omega)
      exact dwrap_in (by omega) (by omega)
    by_cases cA : size < 8 ∧ most < leV ll
    · have hrd : rdN size most (bs, bad) = (0, ((tk size (bs, bad)).2.1, true)) := by
        unfold rdN
        rw [← hll, if_pos cA]
        split
        · rename_i hb
          exact Prod.ext rfl (Prod.ext rfl hb)
        · rfl
      have hi := hi cA.1
      have f1 : (size : Int) < 8 := by omega
      have f2 := cA.2
      rw [hrd] at hQ
      have fin : Q (.int .i64 0, s2.upd r (.cells (.list [bv', .bool true]) false)) :=
        hQ _ ⟨bv', rfl, ⟨by rw [DS.upd_get_self, gr]; rfl, by rw [DS.upd_wr]; exact wr, hin.sl.keep (Ext.upd (F := [r]) (.inl (by simp))) (fun k hk e => hin.ne (List.mem_singleton.1 e ▸ hk)), hin.ne⟩, X1.trans' (Ext.upd (.inl (by simp))), hb1⟩
      simp (maxSteps := 4000000) (maxDischargeDepth := 8) only [WC_seq, WC_region, WC_cond, WC_ret, WC_exit, contS_normal, contS_ret, contS_exit, contB_exit, contR_ap, contL_exit, WO_nil, WO_pp, WO_g, gateO_tt, condC_true, condC_false, contO_ap, atS_ap, atD_ap, W_some, W_mv, W_pick, W_bin, W_cvInt, W_nilck, W_fadr, W_ld, W_st, dpure, dbin, dint, Ends_ret, ev_tmp, ev_const, putT_some, putT_none, get_put_eq, get_put_ne, not_false_eq_true, Option.getD_some, dresults, tupled, ldV_at, Cells.get, getN, Nat.zero_add, Nat.reduceAdd, st_wr, cells_bool, List.length_cons, List.length_nil, allOne, oneCellD, Bool.and_self, Bool.and_true, Nat.beq_eq, Nat.ble_eq, Nat.le_refl, if_true, DS.wrC, Cells.size, Cells.fillFrom, Cells.set, setN, DS.upd_get_self, Option.map_some, decide_true, decide_false, eq_lt, Nat.reduceLT, Nat.lt_add_one, Nat.succ_pos, g0, g1, g2, g7, g12, g13, g14, gr, wr, e1, hi, f1, f2]
      exact fin
    · cases hbad : (tk size (bs, bad)).2.2 with
      | true =>
        have hrd : rdN size most (bs, bad) = (0, (tk size (bs, bad)).2) := by unfold rdN; rw [if_pos hbad]
        rw [hbad] at gr
        rw [hrd] at hQ
        have fin : Q (.int .i64 0, s2) := hQ _ ⟨bv', rfl, hin, X1, hb1⟩
        by_cases c8 : size < 8
        · have f1 : (size : Int) < 8 := by omega
          have hi := hi c8
          have f2 : ¬ most < leV ll := fun h => cA ⟨c8, h⟩
          simp (maxSteps := 4000000) only [WC_seq, WC_region, WC_cond, WC_skip, WC_ret, WC_exit, contS_normal, contS_ret, contS_exit, contB_exit, contR_ap, contL_exit, WO_nil, WO_pp, WO_g, gateO_tt, condC_true, condC_false, contO_ap, atS_ap, W_some, W_mv, W_pick, W_bin, W_cvInt, W_nilck, W_fadr, W_ld, dpure, dbin, dint, Ends_ret, ev_tmp, ev_const, putT_some, get_put_eq, get_put_ne, Nat.reduceEqDiff, not_false_eq_true, Option.getD_some, dresults, tupled, ldV_at, Cells.get, getN, Nat.zero_add, if_true, reduceCtorEq, decide_true, decide_false, g0, g1, g2, g7, g12, g13, g14, gr, wr, e1, hi, f1, f2]
          exact fin
        · have f1 : ¬ (size : Int) < 8 := by omega
          simp (maxSteps := 4000000) only [WC_seq, WC_region, WC_cond, WC_skip, WC_ret, WC_exit, contS_normal, contS_ret, contS_exit, contB_exit, contR_ap, contL_exit, WO_nil, WO_pp, WO_g, gateO_ft, condC_true, condC_false, contO_ap, atS_ap, W_some, W_mv, W_pick, W_bin, W_nilck, W_fadr, W_ld, dpure, dbin, dint, Ends_ret, ev_tmp, ev_const, putT_some, get_put_eq, get_put_ne, Nat.reduceEqDiff, not_false_eq_true, Option.getD_some, dresults, tupled, ldV_at, Cells.get, getN, Nat.zero_add, if_true, if_false, reduceCtorEq, Bool.false_eq_true, List.nil_append, decide_false, g0, g1, g2, g7, g12, g13, g14, gr, wr, e1, f1]
          exact fin
      | false =>
        have hrd : rdN size most (bs, bad) = (dwrap .i64 (leV ll), (tk size (bs, bad)).2) := by
          unfold rdN
          rw [if_neg (by rw [hbad]; simp), ← hll, if_neg cA]
        rw [hbad] at gr
        rw [hrd] at hQ
        have fin : Q (.int .i64 (dwrap .i64 (leV ll)), s2) := hQ _ ⟨bv', rfl, hin, X1, hb1⟩
        by_cases c8 : size < 8
        · have f1 : (size : Int) < 8 := by omega
          have hi := hi c8
          have f2 : ¬ most < leV ll := fun h => cA ⟨c8, h⟩
          rw [hi] at fin
          simp (maxSteps := 4000000) only [WC_seq, WC_region, WC_cond, WC_skip, WC_ret, WC_exit, contS_normal, contS_exit, contB_exit, contR_ap, contL_exit, WO_nil, WO_pp, WO_g, gateO_tt, condC_false, contO_ap, atS_ap, W_some, W_mv, W_pick, W_bin, W_cvInt, W_nilck, W_fadr, W_ld, dpure, dbin, dint, Ends_ret, ev_tmp, ev_const, putT_some, get_put_eq, get_put_ne, Nat.reduceEqDiff, not_false_eq_true, Option.getD_some, dresults, tupled, ldV_at, Cells.get, getN, Nat.zero_add, if_true, reduceCtorEq, decide_true, decide_false, g0, g1, g2, g7, g12, g13, g14, gr, wr, e1, hi, f1, f2]
          exact fin
        · have f1 : ¬ (size : Int) < 8 := by omega
          simp (maxSteps := 4000000) only [WC_seq, WC_region, WC_cond, WC_skip, WC_ret, WC_exit, contS_normal, contS_exit, contB_exit, contR_ap, contL_exit, WO_nil, WO_pp, WO_g, gateO_ft, condC_false, contO_ap, atS_ap, W_some, W_mv, W_pick, W_bin, W_cvInt, W_nilck, W_fadr, W_ld, dpure, dbin, dint, Ends_ret, ev_tmp, ev_const, putT_some, get_put_eq, get_put_ne, Nat.reduceEqDiff, not_false_eq_true, Option.getD_some, dresults, tupled, ldV_at, Cells.get, getN, Nat.zero_add, if_true, if_false, reduceCtorEq, Bool.false_eq_true, List.nil_append, decide_false, g0, g1, g2, g7, g12, g13, g14, gr, wr, e1, f1]
          exact fin
theorem num_get {b1 b2 size : Nat} {most : Int} (hs : size ≤ 8) (hm : 0 ≤ most) :
    GetS E 3 (.func (.func 94) #[] #[.pointer (some ⟨b1, 0, none⟩), .pointer (some ⟨b2, 0, none⟩)]) [(b1, .cells (.list [.int .i64 (size : Int)]) false), (b2, .cells (.list [.int .i64 most]) false)] repI' (rdN size most) := by
  intro d s r bv bs bad hD hb h hB hl hG
  have g1 := hD _ (List.mem_cons_self ..)
  have g2 := hD (b2, _) (List.mem_cons_of_mem _ (List.mem_cons_self ..))
  simp only at g1 g2
  refine W_cps fun Q hQ => ?_
  rw [W_enter hC.inum2 hC.fnum2 rfl]
  simp (maxSteps := 4000000) only [WC_seq, WC_region, contS_normal, contR_ap, WO_nil, WO_pp, contO_ap, atS_ap, W_some, W_mv, W_ld, W_call, ev_tmp, ev_const, ev_func, putT_some, get_put_eq, get_put_ne, Nat.reduceEqDiff, not_false_eq_true, ofList_get, List.getElem?_cons_zero, List.getElem?_cons_succ, Option.getD_some, List.map_cons, List.map_nil, ldV_at, Cells.get, getN, reduceCtorEq, List.nil_append, List.cons_append, pp, pv, d94, g1, g2]
  refine W.mono (glow_ok hC h hG hB hl hs hm) ?_
  rintro ⟨v3, s3⟩ h3
  simp (maxSteps := 4000000) only [WC_ret, contS_normal, contR_ap, WO_nil, WO_pp, contO_ap, W_some, W_mv, Ends_ret, ev_tmp, putT_some, get_put_eq, Option.getD_some, dresults, tupled]
  exact hQ _ h3
end
theorem both59_get {E : Env} {f1 f2 : Nat} {fp fg gp gg : Value} {α β : Type} {n : Nat} {Df Dg : List (Nat × DObj)} {Ra : Nat → DS → Value → α → Prop} {Rb : Nat → DS → Value → β → Prop} {ra : RS → α × RS} {rb : RS → β × RS}
    (ha : GetS E n fg Df Ra ra) (hb : GetS E n gg Dg Rb rb) (sa : GepOk Ra) (sb : GepOk Rb) (oa : RdOk ra) (ca : ∀ o s v x, Ra o s v x → (∃ n, v = .int .i64 n)) (cb : ∀ o s v x, Rb o s v x → (∃ n, v = .int .i64 n)) (hcode : E.fn 82 = some d82) (hintr : E.intr 82 = none) :
    GetS E (n + 1) (.func (.func 82) #[] #[.pointer (some ⟨f1, 0, none⟩), .pointer (some ⟨f2, 0, none⟩)]) ((f1, .cells (.list [fp, fg]) false) :: (f2, .cells (.list [gp, gg]) false) :: (Df ++ Dg)) (gepP Ra Rb) (rdP ra rb) := by
  intro d s r bv bs bad hD hb2 h hB hl hG
  have g1 := hD _ (List.mem_cons_self ..)
  have g2 := hD (f2, _) (List.mem_cons_of_mem _ (List.mem_cons_self ..))
  have l1 := hb2 _ (List.mem_cons_self ..)
  have l2 := hb2 (f2, _) (List.mem_cons_of_mem _ (List.mem_cons_self ..))
  simp only at g1 g2 l1 l2
  have hDf : Deps s Df := hD.sub fun p hp => List.mem_cons_of_mem _ (List.mem_cons_of_mem _ (List.mem_append_left _ hp))
  have hDg : Deps s Dg := hD.sub fun p hp => List.mem_cons_of_mem _ (List.mem_cons_of_mem _ (List.mem_append_right _ hp))
  have lf : ∀ p, p ∈ Df → p.1 ≠ r := fun p hp => hb2 p (List.mem_cons_of_mem _ (List.mem_cons_of_mem _ (List.mem_append_left _ hp)))
  have lg : ∀ p, p ∈ Dg → p.1 ≠ r := fun p hp => hb2 p (List.mem_cons_of_mem _ (List.mem_cons_of_mem _ (List.mem_append_right _ hp)))
  have hrl := DS.get_lt' h.gr
  have l1s := DS.get_lt' g1
  have l2s := DS.get_lt' g2
  refine W_cps fun Q hQ => ?_
  show W (dcall E ((d + n) + 1) _ _ _) Q
  rw [W_enter hintr hcode rfl]
  simp (maxSteps := 4000000) (maxDischargeDepth := 8) only [WC_seq, WC_region, contS_normal, contR_ap, WO_nil, WO_pp, contO_ap, atS_ap, W_some, W_mv, W_fadr, W_ld, W_alloc, W_call, dpure, ev_tmp, putT_some, get_put_eq, get_put_ne, not_false_eq_true, ofList_get, List.getElem?_cons_zero, List.getElem?_cons_succ, Option.getD_some, List.map_cons, List.map_nil, ldV_at, Cells.get, getN, Nat.zero_add, List.nil_append, List.cons_append, pp, pv, get_new_ne, eq_lt, Nat.reduceLT, Nat.lt_add_one, Nat.succ_pos, d82, g1, g2, hG, l1s, l2s]
  obtain ⟨S1, hS1⟩ : ∃ S1 : DS, S1 = s.new (.cells (.list [.int .i64 0, .int .i64 0]) false) := ⟨_, rfl⟩
  rw [← hS1]
  have X1 : ∀ F, Ext F s S1 := fun F => by rw [hS1]; exact Ext.new
  have nS : S1.next = s.next + 1 := by rw [hS1]; rfl
  have gS : S1.get s.next = some (.cells (.list [.int .i64 0, .int .i64 0]) false) := by rw [hS1]; exact DS.new_get_self hG
  have wS : S1.wr s.next = true := (X1 []).wrs (hG _ (Nat.le_refl _)).2
  have I1 : InAt S1 r bv bs bad := h.keep (X1 []) (by simp) (by simp)
  have GS := (X1 []).good hG
  refine W.mono (ha d S1 r bv bs bad (hDf.keep (X1 []) (by simp)) lf I1 hB hl GS) ?_
  rintro ⟨v2, s2⟩ ⟨bv2, R2, I2, X2, b2⟩
  simp only at R2 I2 X2 b2
  have G2 := X2.good GS
  have le2 := X2.le
  obtain ⟨k, hk⟩ := oa.suf (bs, bad)
  have g22 := X2.keep ((X1 []).keep g2 (by simp)) (by simp; exact l2)
  have gS2 := X2.keep gS (by simp; omega)
  have wS2 := X2.wrs wS
  have hca := ca _ _ _ _ R2
  obtain ⟨a, rfl⟩ := hca
  simp (maxSteps := 4000000) only [WC_seq, WC_region, contS_normal, contR_ap, WO_nil, WO_pp, contO_ap, atS_ap, W_some, W_mv, W_fadr, W_ld, W_call, dpure, ev_tmp, putT_some, get_put_eq, get_put_ne, Nat.reduceEqDiff, not_false_eq_true, ofList_get, List.getElem?_cons_zero, List.getElem?_cons_succ, Option.getD_some, List.map_cons, List.map_nil, ldV_at, Cells.get, getN, Nat.zero_add, reduceCtorEq, g22]
  refine W.mono (hb d s2 r bv2 _ _ ((hDg.keep (X1 []) (by simp)).keep X2 fun p hp => by simp; exact lg p hp) lg I2 (by rw [hk]; exact hB.drop k) (by rw [hk]; simp; omega) G2) ?_
  rintro ⟨v3, s3⟩ ⟨bv3, R3, I3, X3, b3⟩
  simp only at R3 I3 X3 b3
  have le3 := X3.le
  have gS3 := X3.keep gS2 (by simp; omega)
  have wS3 := X3.wrs wS2
  have hcb := cb _ _ _ _ R3
  obtain ⟨b, rfl⟩ := hcb
  have hblt : ∀ k, k ∈ blk bv3 → k < s.next := fun k hk => h.sl.lt k (b2 k (b3 k hk))
  have U : ∀ o F, Ext (s.next :: F) s3 (s3.upd s.next o) := fun o F => Ext.upd (.inl (by simp))
  have lo : s.next < s3.next := by omega
  simp (maxSteps := 4000000) (maxDischargeDepth := 8) only [WC_ret, contS_normal, contR_ap, WO_nil, WO_pp, contO_ap, atD_ap, atG_ap, W_some, W_build, W_st, dread, Ends_ret, ev_tmp, putT_some, putT_none, get_put_eq, get_put_ne, not_false_eq_true, Option.getD_some, dresults, tupled, Cells.get, getN, Nat.zero_add, Nat.reduceAdd, st_wr, cells_int, cells_agg, List.length_cons, List.length_nil, allOne, oneCellD, Bool.and_self, Bool.and_true, Bool.and_eq_true, Nat.beq_eq, Nat.ble_eq, Nat.reduceLeDiff, Nat.le_refl, and_self, if_true, DS.wrC, Cells.size, Cells.fillFrom, Cells.set, setN, fillParts, List.take_zero, List.take_succ_cons, List.drop_succ_cons, List.drop_zero, List.nil_append, List.cons_append, List.drop_nil, List.append_nil, DS.upd_get_self, Option.map_some, DS.read, Cells.take, eq_lt, Nat.reduceLT, Nat.lt_add_one, gS3, wS3, lo, X3.good G2]
  refine hQ _ ⟨bv3, ⟨_, _, rfl, sa.mono _ _ _ _ _ (sa.stab _ _ _ _ _ _ (sa.stab _ _ _ _ _ _ R2 X3 (by simp; omega)) (U _ []) (by simp; omega)) (by omega), sb.mono _ _ _ _ _ (sb.stab _ _ _ _ _ _ R3 (U _ []) (by simp; omega)) (by omega)⟩, I3.keep (U _ []) (by simp; omega) (fun k hk => by have := hblt k hk; simp; omega), ?_, fun k hk => b2 k (b3 k hk)⟩
  exact ((X1 _).trans' (X2.trans' X3)).trans (U _ []) (by simp)
theorem both56_get {E : Env} {f1 f2 : Nat} {fp fg gp gg : Value} {α β : Type} {n : Nat} {Df Dg : List (Nat × DObj)} {Ra : Nat → DS → Value → α → Prop} {Rb : Nat → DS → Value → β → Prop} {ra : RS → α × RS} {rb : RS → β × RS}
    (ha : GetS E n fg Df Ra ra) (hb : GetS E n gg Dg Rb rb) (sa : GepOk Ra) (sb : GepOk Rb) (oa : RdOk ra) (ca : ∀ o s v x, Ra o s v x → (∃ n, v = .int .i64 n)) (cb : ∀ o s v x, Rb o s v x → (∃ b n c, v = .slice b n c)) (hcode : E.fn 77 = some d77) (hintr : E.intr 77 = none) :
    GetS E (n + 1) (.func (.func 77) #[] #[.pointer (some ⟨f1, 0, none⟩), .pointer (some ⟨f2, 0, none⟩)]) ((f1, .cells (.list [fp, fg]) false) :: (f2, .cells (.list [gp, gg]) false) :: (Df ++ Dg)) (gepP Ra Rb) (rdP ra rb) := by
  intro d s r bv bs bad hD hb2 h hB hl hG
  have g1 := hD _ (List.mem_cons_self ..)
  have g2 := hD (f2, _) (List.mem_cons_of_mem _ (List.mem_cons_self ..))
  have l1 := hb2 _ (List.mem_cons_self ..)
  have l2 := hb2 (f2, _) (List.mem_cons_of_mem _ (List.mem_cons_self ..))
  simp only at g1 g2 l1 l2
  have hDf : Deps s Df := hD.sub fun p hp => List.mem_cons_of_mem _ (List.mem_cons_of_mem _ (List.mem_append_left _ hp))
  have hDg : Deps s Dg := hD.sub fun p hp => List.mem_cons_of_mem _ (List.mem_cons_of_mem _ (List.mem_append_right _ hp))
  have lf : ∀ p, p ∈ Df → p.1 ≠ r := fun p hp => hb2 p (List.mem_cons_of_mem _ (List.mem_cons_of_mem _ (List.mem_append_left _ hp)))
  have lg : ∀ p, p ∈ Dg → p.1 ≠ r := fun p hp => hb2 p (List.mem_cons_of_mem _ (List.mem_cons_of_mem _ (List.mem_append_right _ hp)))
  have hrl := DS.get_lt' h.gr
  have l1s := DS.get_lt' g1
  have l2s := DS.get_lt' g2
  refine W_cps fun Q hQ => ?_
  show W (dcall E ((d + n) + 1) _ _ _) Q
  rw [W_enter hintr hcode rfl]
  simp (maxSteps := 4000000) (maxDischargeDepth := 8) only [WC_seq, WC_region, contS_normal, contR_ap, WO_nil, WO_pp, contO_ap, atS_ap, W_some, W_mv, W_fadr, W_ld, W_alloc, W_call, dpure, ev_tmp, putT_some, get_put_eq, get_put_ne, not_false_eq_true, ofList_get, List.getElem?_cons_zero, List.getElem?_cons_succ, Option.getD_some, List.map_cons, List.map_nil, ldV_at, Cells.get, getN, Nat.zero_add, List.nil_append, List.cons_append, pp, pv, get_new_ne, eq_lt, Nat.reduceLT, Nat.lt_add_one, Nat.succ_pos, d77, g1, g2, hG, l1s, l2s]
  obtain ⟨S1, hS1⟩ : ∃ S1 : DS, S1 = s.new (.cells (.list [.int .i64 0, .slice none 0 0]) false) := ⟨_, rfl⟩
  rw [← hS1]
  have X1 : ∀ F, Ext F s S1 := fun F => by rw [hS1]; exact Ext.new
  have nS : S1.next = s.next + 1 := by rw [hS1]; rfl
  have gS : S1.get s.next = some (.cells (.list [.int .i64 0, .slice none 0 0]) false) := by rw [hS1]; exact DS.new_get_self hG
  have wS : S1.wr s.next = true := (X1 []).wrs (hG _ (Nat.le_refl _)).2
  have I1 : InAt S1 r bv bs bad := h.keep (X1 []) (by simp) (by simp)
  have GS := (X1 []).good hG
  refine W.mono (ha d S1 r bv bs bad (hDf.keep (X1 []) (by simp)) lf I1 hB hl GS) ?_
  rintro ⟨v2, s2⟩ ⟨bv2, R2, I2, X2, b2⟩
  simp only at R2 I2 X2 b2
  have G2 := X2.good GS
  have le2 := X2.le
  obtain ⟨k, hk⟩ := oa.suf (bs, bad)
  have g22 := X2.keep ((X1 []).keep g2 (by simp)) (by simp; exact l2)
  have gS2 := X2.keep gS (by simp; omega)
  have wS2 := X2.wrs wS
  have hca := ca _ _ _ _ R2
  obtain ⟨a, rfl⟩ := hca
  simp (maxSteps := 4000000) only [WC_seq, WC_region, contS_normal, contR_ap, WO_nil, WO_pp, contO_ap, atS_ap, W_some, W_mv, W_fadr, W_ld, W_call, dpure, ev_tmp, putT_some, get_put_eq, get_put_ne, Nat.reduceEqDiff, not_false_eq_true, ofList_get, List.getElem?_cons_zero, List.getElem?_cons_succ, Option.getD_some, List.map_cons, List.map_nil, ldV_at, Cells.get, getN, Nat.zero_add, reduceCtorEq, g22]
  refine W.mono (hb d s2 r bv2 _ _ ((hDg.keep (X1 []) (by simp)).keep X2 fun p hp => by simp; exact lg p hp) lg I2 (by rw [hk]; exact hB.drop k) (by rw [hk]; simp; omega) G2) ?_
  rintro ⟨v3, s3⟩ ⟨bv3, R3, I3, X3, b3⟩
  simp only at R3 I3 X3 b3
  have le3 := X3.le
  have gS3 := X3.keep gS2 (by simp; omega)
  have wS3 := X3.wrs wS2
  have hcb := cb _ _ _ _ R3
  obtain ⟨y1, y2, y3, rfl⟩ := hcb
  have hblt : ∀ k, k ∈ blk bv3 → k < s.next := fun k hk => h.sl.lt k (b2 k (b3 k hk))
  have U : ∀ o F, Ext (s.next :: F) s3 (s3.upd s.next o) := fun o F => Ext.upd (.inl (by simp))
  have lo : s.next < s3.next := by omega
  simp (maxSteps := 4000000) (maxDischargeDepth := 8) only [WC_ret, contS_normal, contR_ap, WO_nil, WO_pp, contO_ap, atD_ap, atG_ap, W_some, W_build, W_st, dread, Ends_ret, ev_tmp, putT_some, putT_none, get_put_eq, get_put_ne, not_false_eq_true, Option.getD_some, dresults, tupled, Cells.get, getN, Nat.zero_add, Nat.reduceAdd, st_wr, cells_int, cells_slice, cells_agg, List.length_cons, List.length_nil, allOne, oneCellD, Bool.and_self, Bool.and_true, Bool.and_eq_true, Nat.beq_eq, Nat.ble_eq, Nat.reduceLeDiff, Nat.le_refl, and_self, if_true, DS.wrC, Cells.size, Cells.fillFrom, Cells.set, setN, fillParts, List.take_zero, List.take_succ_cons, List.drop_succ_cons, List.drop_zero, List.nil_append, List.cons_append, List.drop_nil, List.append_nil, DS.upd_get_self, Option.map_some, DS.read, Cells.take, eq_lt, Nat.reduceLT, Nat.lt_add_one, gS3, wS3, lo, X3.good G2]
  refine hQ _ ⟨bv3, ⟨_, _, rfl, sa.mono _ _ _ _ _ (sa.stab _ _ _ _ _ _ (sa.stab _ _ _ _ _ _ R2 X3 (by simp; omega)) (U _ []) (by simp; omega)) (by omega), sb.mono _ _ _ _ _ (sb.stab _ _ _ _ _ _ R3 (U _ []) (by simp; omega)) (by omega)⟩, I3.keep (U _ []) (by simp; omega) (fun k hk => by have := hblt k hk; simp; omega), ?_, fun k hk => b2 k (b3 k hk)⟩
  exact ((X1 _).trans' (X2.trans' X3)).trans (U _ []) (by simp)
theorem rdN_range {size : Nat} {most : Int} (st : RS) (hB : IsB st.1) (h8 : size < 8) (hm : 0 ≤ most) : 0 ≤ (rdN size most st).1 ∧ (rdN size most st).1 ≤ most := by
  cases h : (rdN size most st).2.2 with
  | false =>
    obtain ⟨_, h2, h3, h4⟩ := rdN_get h
    have hr := leV_range (hB.take size)
    have hl : (st.1.take size).length = size := by rw [List.length_take]; omega
    rw [hl] at hr
    have h7 := pow_le7 (j := size) (by omega)
    rw [h3]
    have h4 := h4 h8
    show 0 ≤ dwrap .i64 _ ∧ dwrap .i64 _ ≤ most
    rw [dwrap_in (by omega) (by omega)]
    exact ⟨hr.1, h4⟩
  | true =>
    unfold rdN at h ⊢
    split
    · exact ⟨Int.le_refl _, hm⟩
    · rename_i h1
      rw [if_neg h1] at h
      split
      · exact ⟨Int.le_refl _, hm⟩
      · rename_i h2
        rw [if_neg h2] at h
        exact absurd h h1
structure ManyG58 {α : Type} (s0 : DS) (r f1 : Nat) (bv : Value) (row : α → List Value) (rd : RS → α × RS) (L : Nat) (tot : List α × RS) (n : Nat) (y : St) : Prop where
  ex : ∃ (l : List α) (st : RS) (lv bv' : Value), y.defers = [] ∧ (y.t.get 0 = some (.pointer (some ⟨r, 0, none⟩)) ∧ y.t.get 2 = some (.pointer (some ⟨f1, 0, none⟩)) ∧ y.t.get 5 = some lv ∧ y.t.get 6 = some (.int .i64 (n : Int))) ∧
    SlC y.s 2 lv (l.map row) ∧ (∀ k, k ∈ blk lv → s0.next ≤ k) ∧ InAt y.s r bv' st.1 st.2 ∧ (∀ k, k ∈ blk bv' → k ∈ blk bv) ∧ Ext [r] s0 y.s ∧ y.s.Good ∧ IsB st.1 ∧ st.1.length ≤ L ∧ rdLoop rd n l st = tot ∧ l.length + n ≤ 4096
theorem many58_get {E : Env} {c1 f1 : Nat} {cp cg fp fg : Value} {α : Type} {n : Nat} {Dc Df : List (Nat × DObj)} {R : Nat → DS → Value → α → Prop} {rd : RS → α × RS} {row : α → List Value}
    (hc : GetS E n cg Dc repI' (rdN 2 4096)) (hf : GetS E n fg Df R rd) (oR : RdOk rd) (hrow : ∀ o s v x, R o s v x → v = .agg ⟨row x⟩) (hsh : ∀ x, (∃ a b, row x = [.int .i64 a, .int .i64 b])) (hlf : 5000 ≤ E.lf) (hcode : E.fn 80 = some d80) (hintr : E.intr 80 = none) :
    GetS E (n + 1) (.func (.func 80) #[] #[.pointer (some ⟨c1, 0, none⟩), .pointer (some ⟨f1, 0, none⟩)]) ((c1, .cells (.list [cp, cg]) false) :: (f1, .cells (.list [fp, fg]) false) :: (Dc ++ Df)) (gepL 2 row) (rdL rd) := by
  intro d s r bv bs bad hD hb2 h hB hl hG
  have g1 := hD _ (List.mem_cons_self ..)
  have g2 := hD (f1, _) (List.mem_cons_of_mem _ (List.mem_cons_self ..))
  have l1 := hb2 _ (List.mem_cons_self ..)
  have l2 := hb2 (f1, _) (List.mem_cons_of_mem _ (List.mem_cons_self ..))
  simp only at g1 g2 l1 l2
  have hDc : Deps s Dc := hD.sub fun p hp => List.mem_cons_of_mem _ (List.mem_cons_of_mem _ (List.mem_append_left _ hp))
  have hDf : Deps s Df := hD.sub fun p hp => List.mem_cons_of_mem _ (List.mem_cons_of_mem _ (List.mem_append_right _ hp))
  have lc : ∀ p, p ∈ Dc → p.1 ≠ r := fun p hp => hb2 p (List.mem_cons_of_mem _ (List.mem_cons_of_mem _ (List.mem_append_left _ hp)))
  have lf : ∀ p, p ∈ Df → p.1 ≠ r := fun p hp => hb2 p (List.mem_cons_of_mem _ (List.mem_cons_of_mem _ (List.mem_append_right _ hp)))
  have hrl := DS.get_lt' h.gr
  have l2s := DS.get_lt' g2
  refine W_cps fun Q hQ => ?_
  show W (dcall E ((d + n) + 1) _ _ _) Q
  rw [W_enter hintr hcode rfl]
  simp (maxSteps := 4000000) only [WC_seq, WC_region, contS_normal, contR_ap, WO_nil, WO_pp, contO_ap, atS_ap, W_some, W_mv, W_fadr, W_ld, W_call, dpure, ev_tmp, ev_const, putT_some, get_put_eq, get_put_ne, Nat.reduceEqDiff, not_false_eq_true, ofList_get, List.getElem?_cons_zero, List.getElem?_cons_succ, Option.getD_some, List.map_cons, List.map_nil, ldV_at, Cells.get, getN, Nat.zero_add, reduceCtorEq, List.nil_append, List.cons_append, pp, pv, pw, pg, d80, g1]
  refine W.mono (hc d s r bv bs bad hDc lc h hB hl hG) ?_
  rintro ⟨v1, s1⟩ ⟨bv1, R1, I1, X1, b1⟩
  simp only at R1 I1 X1 b1
  have R1 : v1 = _ := R1
  subst R1
  have hrg := rdN_range (size := 2) (most := 4096) (bs, bad) hB (by decide) (by decide)
  obtain ⟨k, hk⟩ := (rdN_ok 2 4096).suf (bs, bad)
  obtain ⟨st1, hst1⟩ : ∃ st1, st1 = (rdN 2 4096 (bs, bad)).2 := ⟨_, rfl⟩
  obtain ⟨N, hN⟩ : ∃ N : Nat, ((N : Nat) : Int) = (rdN 2 4096 (bs, bad)).1 := ⟨(rdN 2 4096 (bs, bad)).1.toNat, Int.toNat_of_nonneg hrg.1⟩
  have htot : rdLoop rd N [] st1 = rdL rd (bs, bad) := by
    unfold rdL
    rw [← hN, Int.toNat_natCast, hst1]
  rw [← hN] at hrg ⊢
  rw [← hst1] at I1 hk
  simp (maxSteps := 4000000) only [WC_block, contS_normal, contR_ap, WO_nil, WO_pp, contO_ap, W_mv, ev_tmp, putT_some, get_put_eq, Option.getD_some]
  refine WC_loop (ManyG58 s r f1 bv row rd bs.length (rdL rd (bs, bad))) N (by omega) ⟨[], st1, .slice none 0 0, bv1, rfl, ?_, SlC.nil, by simp [blk], I1, b1, X1, X1.good hG, by rw [hk]; exact hB.drop k, by rw [hk]; simp, htot, by simp; omega⟩ ?_
  · simp (maxSteps := 4000000) only [get_put_eq, get_put_ne, Nat.reduceEqDiff, not_false_eq_true, ofList_get, List.getElem?_cons_zero, List.getElem?_cons_succ, Bool.and_self, and_self, reduceCtorEq]
  rintro m ⟨t, S, ds⟩ hm ⟨l, st, lv, bv2, hds, ⟨t0, t2, t5, t6⟩, sk, bk, I2, b2, X2, G2, hB2, hL2, htot2, hlen⟩
  simp only at hds t0 t2 t5 t6 sk bk I2 X2 G2
  subst hds
  have gr := I2.gr
  have le2 := X2.le
  have g2S := X2.keep g2 (by simp; exact l2)
  have done : rdLoop rd m l st = (l, st) → Q (lv, S) := fun he => by
    rw [← htot2, he] at hQ
    exact hQ _ ⟨bv2, ⟨sk, bk⟩, I2, X2, b2⟩
  cases m with
  | zero =>
    have := done rfl
    have e0 : ¬ (0 : Int) < ((0 : Nat) : Int) := by omega
    simp (maxSteps := 4000000) only [WC_seq, WC_region, WC_cond, WC_ret, WC_exit, contS_normal, contS_exit, contB_exit, contR_ap, contL_exit, WO_nil, WO_pp, WO_g, gateO_ft, condC_false, contO_ap, atS_ap, W_some, W_mv, W_pick, W_bin, dpure, dbin, dint, Ends_ret, ev_tmp, ev_const, putT_some, get_put_eq, get_put_ne, Nat.reduceEqDiff, not_false_eq_true, Option.getD_some, dresults, tupled, if_true, if_false, Bool.false_eq_true, List.nil_append, decide_false, t0, t2, t5, t6, e0]
    exact this
  | succ m =>
    have e1 : (0 : Int) < ((m + 1 : Nat) : Int) := by omega
    cases hst : st.2 with
    | true =>
      have := done (rdLoop_bad _ _ _ hst)
      rw [hst] at gr
      simp (maxSteps := 4000000) only [WC_seq, WC_region, WC_cond, WC_ret, WC_exit, contS_normal, contS_exit, contB_exit, contR_ap, contL_exit, WO_nil, WO_pp, WO_g, gateO_tt, condC_false, contO_ap, atS_ap, W_some, W_mv, W_pick, W_bin, W_un, W_nilck, W_fadr, W_ld, dpure, dbin, dint, Ends_ret, ev_tmp, ev_const, putT_some, get_put_eq, get_put_ne, Nat.reduceEqDiff, not_false_eq_true, Option.getD_some, dresults, tupled, ldV_at, Cells.get, getN, Nat.zero_add, if_true, reduceCtorEq, Bool.not_true, decide_true, t0, t2, t5, t6, gr, e1]
      exact this
    | false =>
      rw [hst] at gr I2
      have hl2 := DS.get_lt' gr
      simp (maxSteps := 4000000) only [WC_seq, WC_region, WC_cond, WC_block, WC_skip, contS_normal, contR_ap, WO_nil, WO_pp, WO_g, gateO_tt, condC_true, contO_ap, atS_ap, W_some, W_mv, W_pick, W_bin, W_un, W_nilck, W_fadr, W_ld, W_call, dpure, dbin, dint, ev_tmp, ev_const, putT_some, get_put_eq, get_put_ne, Nat.reduceEqDiff, not_false_eq_true, Option.getD_some, List.map_cons, List.map_nil, ldV_at, Cells.get, getN, Nat.zero_add, if_true, reduceCtorEq, Bool.not_false, decide_true, t0, t2, t5, t6, gr, e1, g2S]
      refine W.mono (hf d S r bv2 st.1 false (hDf.keep X2 fun p hp => by simp; exact lf p hp) lf I2 hB2 (by omega) G2) ?_
      rintro ⟨v3, s3⟩ ⟨bv3, R3, I3, X3, b3⟩
      simp only at R3 I3 X3 b3
      have hstE : (st.1, false) = st := Prod.ext rfl hst.symm
      rw [hstE] at R3 I3
      obtain ⟨x, hx⟩ : ∃ x, x = (rd st).1 := ⟨_, rfl⟩
      rw [← hx] at R3
      have hv3 := hrow _ _ _ _ R3
      obtain ⟨xa, xb, hab⟩ := hsh x
      subst hv3
      have le3 := X3.le
      have G3 := X3.good G2
      obtain ⟨k3, hk3⟩ := oR.suf st
      obtain ⟨alv, clv, hlv⟩ := sk.shape
      simp (maxSteps := 4000000) (maxDischargeDepth := 8) only [WO_pp, contO_ap, atL_ap, W_some, ev_tmp, putT_some, get_put_eq, get_put_ne, not_false_eq_true, Option.getD_some, Nat.zero_add, Nat.reduceAdd, cells_agg, List.length_cons, List.length_nil, Bool.and_self, Bool.and_eq_true, Nat.beq_eq, Nat.ble_eq, Nat.reduceLeDiff, Nat.le_refl, and_self, if_true, fillParts, List.take_zero, List.drop_succ_cons, List.nil_append, List.drop_nil, List.append_nil, W_app, W_bslice, repeatZ, Nat.reduceMul, atL_ap, eq_lt, Nat.reduceLT, Nat.lt_add_one, hab, G3]
      obtain ⟨S1, hS1⟩ : ∃ S1 : DS, S1 = s3.new (.cells (.list (row x)) false) := ⟨_, rfl⟩
      rw [← hab, ← hS1]
      have X4 : ∀ F, Ext F s3 S1 := fun F => by rw [hS1]; exact Ext.new
      have n4 : S1.next = s3.next + 1 := by rw [hS1]; rfl
      have g4 : S1.get s3.next = some (.cells (.list (row x)) false) := by rw [hS1]; exact DS.new_get_self G3
      have hw : SlV S1 2 (.slice (some ⟨s3.next, 0, none⟩) 1 1) [row x] := .inr ⟨s3.next, 0, none, 1, rfl, by unfold DS.read; rw [g4, hab]; simp only [List.length_cons, List.length_nil, List.flatten_cons, List.flatten_nil, List.append_nil]; rfl⟩
      have okr : ∀ l : List α, RowsOk 2 (l.map row) := fun l => ⟨fun y hy => by
        obtain ⟨z, _, rfl⟩ := List.mem_map.1 hy
        obtain ⟨za, zb, hab⟩ := hsh z
        rw [hab]; rfl, fun y hy => by
        obtain ⟨z, _, rfl⟩ := List.mem_map.1 hy
        obtain ⟨za, zb, hab⟩ := hsh z
        rw [hab]; rfl⟩
      have hlm : (l.map row).length = l.length := List.length_map ..
      refine W.mono (appC_ok ((sk.keep X3 fun k hk => by have := bk k hk; simp; omega).keep (X4 []) (by simp)) hw (okr l) (okr [x]) ((X4 []).good G3) (by rw [hlm]; simp; omega) (by rw [hlm]; simp; omega)) ?_
      rintro ⟨lv4, S4⟩ ⟨sk4, X5, b5, _⟩
      simp only at sk4 X5 b5
      have w2 : dwrap .i64 (((m + 1 : Nat) : Int) - 1) = (m : Int) := by rw [dwrap_in (by omega) (by omega)]; omega
      simp (maxSteps := 4000000) only [WC_region, contS_normal, contB_normal, contR_ap, contL_normal, WO_nil, WO_pp, contO_ap, atS_ap, W_some, W_mv, W_bin, dbin, dint, ev_tmp, ev_const, putT_some, get_put_eq, get_put_ne, Nat.reduceEqDiff, not_false_eq_true, Option.getD_some, if_true, t0, t2, t5, t6, w2]
      have X6 : Ext [r] s S4 := ((X2.trans' X3).trans' (X4 _)).trans X5 fun k hk => .inr (bk k hk)
      have hblt : ∀ k, k ∈ blk bv3 → k < s.next := fun k hk => h.sl.lt k (b2 k (b3 k hk))
      refine ⟨m, by omega, ⟨l ++ [x], (rd st).2, lv4, bv3, rfl, by simp (maxSteps := 4000000) only [get_put_eq, get_put_ne, Nat.reduceEqDiff, not_false_eq_true, Bool.and_self, and_self, reduceCtorEq, t0, t2], ?_, fun k hk => ?_, (I3.keep (X4 []) (by simp) (by simp)).keep X5 (fun hk => by have := bk _ hk; omega) (fun k hk hk2 => by have := bk _ hk2; have := hblt _ hk; omega), fun k hk => b2 k (b3 k hk), X6, X6.good hG, by rw [hk3]; exact hB2.drop k3, by rw [hk3]; simp; omega, ?_, by simp; omega⟩⟩
      · rw [List.map_append]
        exact sk4
      · rcases b5 k hk with h | h
        · exact bk k h
        · omega
      · rw [← htot2, rdLoop, if_neg (by rw [hst]; simp), hx]
section
variable {E : Env} (hC : GFns E) (hP : CFns E) {s : DS} {d : Nat}
include hC hP
theorem num57_fieldR (hG : s.Good) {m : Nat} (hm : m ≤ s.next) (hcode : E.fn 57 = some d57) (hintr : E.intr 57 = none) :
    W (dcall E (d + 2) (.func (.func 57) #[] #[]) [] s) fun r => FieldR E 3 m r.2 r.1 repI' (rdN 2 65535) ∧ Ext [] s r.2 := by
  refine W_cps fun Q hQ => ?_
  rw [W_enter0 hintr hcode rfl]
  simp (maxSteps := 4000000) (maxDischargeDepth := 8) only [WC_seq, WC_region, contS_normal, contR_ap, WO_nil, WO_pp, contO_ap, W_alloc, W_call, ev_const, ev_func, putT_some, List.map_cons, List.map_nil, pp, d57, hG]
  refine W.mono (num_ok hP (DS.new_good hG) _ _) ?_
  rintro ⟨v2, s2⟩ ⟨hv2, n1, n2, X2, hn2⟩
  simp only [DS.new_next] at hv2 n1 n2 X2 hn2
  subst hv2
  have T0 := X2.keep (DS.new_get_self (o := .cells (.list [.nilFunc, .nilFunc]) false) hG) (by simp)
  have wT := X2.wrs (show (s.new (.cells (.list [.nilFunc, .nilFunc]) false)).wr s.next = true from (hG _ (Nat.le_refl _)).2)
  simp (maxSteps := 4000000) (maxDischargeDepth := 8) only [WC_ret, contS_normal, contR_ap, WO_nil, WO_pp, contO_ap, atD_ap, W_some, W_st, dread, Ends_ret, ev_tmp, putT_some, putT_none, get_put_eq, get_put_ne, not_false_eq_true, Option.getD_some, dresults, tupled, Cells.get, getN, Nat.zero_add, Nat.reduceAdd, st_wr, cells_agg, List.length_cons, List.length_nil, allOne, oneCellD, Bool.and_self, Bool.and_true, Nat.beq_eq, Nat.ble_eq, Nat.le_refl, if_true, DS.wrC, Cells.size, Cells.fillFrom, Cells.set, setN, DS.upd_get_self, Option.map_some, DS.read, Cells.take, eq_lt, Nat.add_assoc, Nat.lt_add_one, T0, wT]
  have X3 : ∀ o, Ext [] s (s2.upd s.next o) := fun o => (Ext.new.trans' X2).trans (Ext.upd (F := [s.next]) (.inl (by simp))) (by simp)
  refine hQ _ ⟨⟨_, _, _, _, _, _, [(s.next + 1, .cells (.list [.int .i64 ((2 : Nat) : Int)]) false), (s.next + 2, .cells (.list [.int .i64 65535]) false)], rfl, ?_, ?_, num_get hC (by omega) (by omega)⟩, X3 _⟩
  · intro p hp
    rcases List.mem_cons.1 hp with rfl | hp
    · simp (maxSteps := 4000000) (maxDischargeDepth := 8) only [not_false_eq_true, DS.upd_get_ne, n1, show ¬ s.next + 1 = s.next by omega]
      rfl
    · rcases List.mem_cons.1 hp with rfl | hp
      · simp (maxSteps := 4000000) (maxDischargeDepth := 8) only [not_false_eq_true, DS.upd_get_ne, n2, show ¬ s.next + 2 = s.next by omega]
      · cases hp
  · intro p hp
    have : m ≤ p.1 ∧ p.1 < s2.next := by
      rcases List.mem_cons.1 hp with rfl | hp
      · show m ≤ s.next + 1 ∧ s.next + 1 < s2.next; omega
      · rcases List.mem_cons.1 hp with rfl | hp
        · show m ≤ s.next + 2 ∧ s.next + 2 < s2.next; omega
        · cases hp
    simp (maxSteps := 4000000) (maxDischargeDepth := 8) only [DS.upd_next]
    exact this
theorem num60_fieldR (hG : s.Good) {m : Nat} (hm : m ≤ s.next) (hcode : E.fn 60 = some d60) (hintr : E.intr 60 = none) :
    W (dcall E (d + 2) (.func (.func 60) #[] #[]) [] s) fun r => FieldR E 3 m r.2 r.1 repI' (rdN 8 0) ∧ Ext [] s r.2 := by
  refine W_cps fun Q hQ => ?_
  rw [W_enter0 hintr hcode rfl]
  simp (maxSteps := 4000000) (maxDischargeDepth := 8) only [WC_seq, WC_region, contS_normal, contR_ap, WO_nil, WO_pp, contO_ap, W_alloc, W_call, ev_const, ev_func, putT_some, List.map_cons, List.map_nil, pp, d60, hG]
  refine W.mono (num_ok hP (DS.new_good hG) _ _) ?_
  rintro ⟨v2, s2⟩ ⟨hv2, n1, n2, X2, hn2⟩
  simp only [DS.new_next] at hv2 n1 n2 X2 hn2
  subst hv2
  have T0 := X2.keep (DS.new_get_self (o := .cells (.list [.nilFunc, .nilFunc]) false) hG) (by simp)
  have wT := X2.wrs (show (s.new (.cells (.list [.nilFunc, .nilFunc]) false)).wr s.next = true from (hG _ (Nat.le_refl _)).2)
  simp (maxSteps := 4000000) (maxDischargeDepth := 8) only [WC_ret, contS_normal, contR_ap, WO_nil, WO_pp, contO_ap, atD_ap, W_some, W_st, dread, Ends_ret, ev_tmp, putT_some, putT_none, get_put_eq, get_put_ne, not_false_eq_true, Option.getD_some, dresults, tupled, Cells.get, getN, Nat.zero_add, Nat.reduceAdd, st_wr, cells_agg, List.length_cons, List.length_nil, allOne, oneCellD, Bool.and_self, Bool.and_true, Nat.beq_eq, Nat.ble_eq, Nat.le_refl, if_true, DS.wrC, Cells.size, Cells.fillFrom, Cells.set, setN, DS.upd_get_self, Option.map_some, DS.read, Cells.take, eq_lt, Nat.add_assoc, Nat.lt_add_one, T0, wT]
  have X3 : ∀ o, Ext [] s (s2.upd s.next o) := fun o => (Ext.new.trans' X2).trans (Ext.upd (F := [s.next]) (.inl (by simp))) (by simp)
  refine hQ _ ⟨⟨_, _, _, _, _, _, [(s.next + 1, .cells (.list [.int .i64 ((8 : Nat) : Int)]) false), (s.next + 2, .cells (.list [.int .i64 0]) false)], rfl, ?_, ?_, num_get hC (by omega) (by omega)⟩, X3 _⟩
  · intro p hp
    rcases List.mem_cons.1 hp with rfl | hp
    · simp (maxSteps := 4000000) (maxDischargeDepth := 8) only [not_false_eq_true, DS.upd_get_ne, n1, show ¬ s.next + 1 = s.next by omega]
      rfl
    · rcases List.mem_cons.1 hp with rfl | hp
      · simp (maxSteps := 4000000) (maxDischargeDepth := 8) only [not_false_eq_true, DS.upd_get_ne, n2, show ¬ s.next + 2 = s.next by omega]
      · cases hp
  · intro p hp
    have : m ≤ p.1 ∧ p.1 < s2.next := by
      rcases List.mem_cons.1 hp with rfl | hp
      · show m ≤ s.next + 1 ∧ s.next + 1 < s2.next; omega
      · rcases List.mem_cons.1 hp with rfl | hp
        · show m ≤ s.next + 2 ∧ s.next + 2 < s2.next; omega
        · cases hp
    simp (maxSteps := 4000000) (maxDischargeDepth := 8) only [DS.upd_next]
    exact this
theorem both59_fieldR {α β : Type} {n m : Nat} (hm : m ≤ s.next) {va vb : Value} {Ra : Nat → DS → Value → α → Prop} {Rb : Nat → DS → Value → β → Prop} {ra : RS → α × RS} {rb : RS → β × RS}
    (hG : s.Good) (ha : FieldR E n m s va Ra ra) (hb : FieldR E n m s vb Rb rb) (hcode : E.fn 59 = some d59) (hintr : E.intr 59 = none)
    (hget : ∀ {f1 f2 : Nat} {fp fg gp gg : Value} {Df Dg : List (Nat × DObj)}, GetS E n fg Df Ra ra → GetS E n gg Dg Rb rb → GetS E (n + 1) (.func (.func 82) #[] #[.pointer (some ⟨f1, 0, none⟩), .pointer (some ⟨f2, 0, none⟩)]) ((f1, .cells (.list [fp, fg]) false) :: (f2, .cells (.list [gp, gg]) false) :: (Df ++ Dg)) (gepP Ra Rb) (rdP ra rb)) :
    W (dcall E (d + 1) (.func (.func 59) #[] #[]) [va, vb] s) fun r => FieldR E (n + 1) m r.2 r.1 (gepP Ra Rb) (rdP ra rb) ∧ Ext [] s r.2 := by
  obtain ⟨f1, a1, b1, g1, p1, q1, D1, rfl, h2, h3, h4⟩ := ha
  obtain ⟨f2, a2, b2, g2, p2, q2, D2, rfl, k2, k3, k4⟩ := hb
  refine W_cps fun Q hQ => ?_
  rw [W_enter0 hintr hcode rfl]
  simp (maxSteps := 4000000) (maxDischargeDepth := 8) only [WC_seq, WC_region, WC_cond, WC_skip, WC_ret, contS_normal, contR_ap, WO_nil, WO_pp, WO_g, gateO_ff, condC_false, contO_ap, atS_ap, atD_ap, atG_ap, atB_ap, W_some, W_mv, W_pick, W_eq1, W_build, W_mkf, W_fadr, W_ld, W_st, W_alloc, W_box, dpure, dread, eqOne, Ends_ret, ev_tmp, ev_const, putT_some, putT_none, get_put_eq, get_put_ne, not_false_eq_true, ofList_get, List.getElem?_cons_zero, List.getElem?_cons_succ, Option.getD_some, dresults, tupled, List.map_cons, List.map_nil, ldV_at, Cells.get, getN, Nat.zero_add, Nat.reduceAdd, st_wr, cells_func, cells_agg, List.length_cons, List.length_nil, allOne, oneCellD, Bool.and_self, Bool.and_true, Bool.and_eq_true, Nat.beq_eq, Nat.ble_eq, Nat.reduceLeDiff, Nat.le_refl, and_self, if_true, if_false, Bool.not_false, Bool.false_eq_true, DS.wrC, Cells.size, Cells.fillFrom, Cells.set, setN, fillParts, List.take_zero, List.take_succ_cons, List.drop_succ_cons, List.drop_zero, List.nil_append, List.cons_append, List.drop_nil, List.append_nil, pp, pv, pg, DS.upd_get_self, Option.map_some, nextN, wrN, Nat.add_zero, DS.read, Cells.take, get_new_at, get_new_ne, good_new, good_at, eq_lt, lt_add_s, Nat.add_assoc, Nat.reduceLT, Nat.lt_add_one, Nat.succ_pos, d59, hG]
  have X : ∀ o1 o2 o3 o4, Ext [] s ((((s.new o1).new o2).new o3).upd (s.next + 2) o4) := fun _ _ _ _ => (Ext.new.trans' (Ext.new.trans' Ext.new)).trans (Ext.upd (F := [s.next + 2]) (.inl (by simp))) (by simp)
  refine hQ _ ⟨⟨_, _, _, _, _, _, _, rfl, ?_, ?_, hget (f1 := s.next) (f2 := s.next + 1) (fp := .func (.func f1) a1 b1) (gp := .func (.func f2) a2 b2) h4 k4⟩, X _ _ _ _⟩
  · intro p hp
    rcases List.mem_cons.1 hp with rfl | hp
    · simp (maxSteps := 4000000) (maxDischargeDepth := 8) only [not_false_eq_true, Nat.reduceAdd, DS.upd_get_ne, nextN, get_new_at, get_new_ne, good_new, eq_lt, lt_add_s, Nat.add_assoc, Nat.lt_add_one, Nat.succ_pos, hG]
    · rcases List.mem_cons.1 hp with rfl | hp
      · simp (maxSteps := 4000000) (maxDischargeDepth := 8) only [not_false_eq_true, Nat.reduceAdd, DS.upd_get_ne, nextN, get_new_at, get_new_ne, good_new, eq_lt, Nat.add_assoc, Nat.lt_add_one, hG]
      · rcases List.mem_append.1 hp with hp | hp
        · exact (X _ _ _ _).keep (h2 p hp) (by simp)
        · exact (X _ _ _ _).keep (k2 p hp) (by simp)
  · intro p hp
    have hn : ∀ o1 o2 o3 o4, ((((s.new o1).new o2).new o3).upd (s.next + 2) o4).next = s.next + 3 := fun _ _ _ _ => by simp (maxSteps := 4000000) (maxDischargeDepth := 8) only [Nat.reduceAdd, DS.upd_next, nextN, Nat.add_assoc]
    rw [hn]
    rcases List.mem_cons.1 hp with rfl | hp
    · show m ≤ s.next ∧ s.next < s.next + 3; omega
    · rcases List.mem_cons.1 hp with rfl | hp
      · show m ≤ s.next + 1 ∧ s.next + 1 < s.next + 3; omega
      · rcases List.mem_append.1 hp with hp | hp
        · have := h3 p hp; omega
        · have := k3 p hp; omega
theorem both56_fieldR {α β : Type} {n m : Nat} (hm : m ≤ s.next) {va vb : Value} {Ra : Nat → DS → Value → α → Prop} {Rb : Nat → DS → Value → β → Prop} {ra : RS → α × RS} {rb : RS → β × RS}
    (hG : s.Good) (ha : FieldR E n m s va Ra ra) (hb : FieldR E n m s vb Rb rb) (hcode : E.fn 56 = some d56) (hintr : E.intr 56 = none)
    (hget : ∀ {f1 f2 : Nat} {fp fg gp gg : Value} {Df Dg : List (Nat × DObj)}, GetS E n fg Df Ra ra → GetS E n gg Dg Rb rb → GetS E (n + 1) (.func (.func 77) #[] #[.pointer (some ⟨f1, 0, none⟩), .pointer (some ⟨f2, 0, none⟩)]) ((f1, .cells (.list [fp, fg]) false) :: (f2, .cells (.list [gp, gg]) false) :: (Df ++ Dg)) (gepP Ra Rb) (rdP ra rb)) :
    W (dcall E (d + 1) (.func (.func 56) #[] #[]) [va, vb] s) fun r => FieldR E (n + 1) m r.2 r.1 (gepP Ra Rb) (rdP ra rb) ∧ Ext [] s r.2 := by
  obtain ⟨f1, a1, b1, g1, p1, q1, D1, rfl, h2, h3, h4⟩ := ha
  obtain ⟨f2, a2, b2, g2, p2, q2, D2, rfl, k2, k3, k4⟩ := hb
  refine W_cps fun Q hQ => ?_
  rw [W_enter0 hintr hcode rfl]
  simp (maxSteps := 4000000) (maxDischargeDepth := 8) only [WC_seq, WC_region, WC_cond, WC_skip, WC_ret, contS_normal, contR_ap, WO_nil, WO_pp, WO_g, gateO_ff, condC_false, contO_ap, atS_ap, atD_ap, atG_ap, atB_ap, W_some, W_mv, W_pick, W_eq1, W_build, W_mkf, W_fadr, W_ld, W_st, W_alloc, W_box, dpure, dread, eqOne, Ends_ret, ev_tmp, ev_const, putT_some, putT_none, get_put_eq, get_put_ne, not_false_eq_true, ofList_get, List.getElem?_cons_zero, List.getElem?_cons_succ, Option.getD_some, dresults, tupled, List.map_cons, List.map_nil, ldV_at, Cells.get, getN, Nat.zero_add, Nat.reduceAdd, st_wr, cells_func, cells_agg, List.length_cons, List.length_nil, allOne, oneCellD, Bool.and_self, Bool.and_true, Bool.and_eq_true, Nat.beq_eq, Nat.ble_eq, Nat.reduceLeDiff, Nat.le_refl, and_self, if_true, if_false, Bool.not_false, Bool.false_eq_true, DS.wrC, Cells.size, Cells.fillFrom, Cells.set, setN, fillParts, List.take_zero, List.take_succ_cons, List.drop_succ_cons, List.drop_zero, List.nil_append, List.cons_append, List.drop_nil, List.append_nil, pp, pv, pg, DS.upd_get_self, Option.map_some, nextN, wrN, Nat.add_zero, DS.read, Cells.take, get_new_at, get_new_ne, good_new, good_at, eq_lt, lt_add_s, Nat.add_assoc, Nat.reduceLT, Nat.lt_add_one, Nat.succ_pos, d56, hG]
  have X : ∀ o1 o2 o3 o4, Ext [] s ((((s.new o1).new o2).new o3).upd (s.next + 2) o4) := fun _ _ _ _ => (Ext.new.trans' (Ext.new.trans' Ext.new)).trans (Ext.upd (F := [s.next + 2]) (.inl (by simp))) (by simp)
  refine hQ _ ⟨⟨_, _, _, _, _, _, _, rfl, ?_, ?_, hget (f1 := s.next) (f2 := s.next + 1) (fp := .func (.func f1) a1 b1) (gp := .func (.func f2) a2 b2) h4 k4⟩, X _ _ _ _⟩
  · intro p hp
    rcases List.mem_cons.1 hp with rfl | hp
    · simp (maxSteps := 4000000) (maxDischargeDepth := 8) only [not_false_eq_true, Nat.reduceAdd, DS.upd_get_ne, nextN, get_new_at, get_new_ne, good_new, eq_lt, lt_add_s, Nat.add_assoc, Nat.lt_add_one, Nat.succ_pos, hG]
    · rcases List.mem_cons.1 hp with rfl | hp
      · simp (maxSteps := 4000000) (maxDischargeDepth := 8) only [not_false_eq_true, Nat.reduceAdd, DS.upd_get_ne, nextN, get_new_at, get_new_ne, good_new, eq_lt, Nat.add_assoc, Nat.lt_add_one, hG]
      · rcases List.mem_append.1 hp with hp | hp
        · exact (X _ _ _ _).keep (h2 p hp) (by simp)
        · exact (X _ _ _ _).keep (k2 p hp) (by simp)
  · intro p hp
    have hn : ∀ o1 o2 o3 o4, ((((s.new o1).new o2).new o3).upd (s.next + 2) o4).next = s.next + 3 := fun _ _ _ _ => by simp (maxSteps := 4000000) (maxDischargeDepth := 8) only [Nat.reduceAdd, DS.upd_next, nextN, Nat.add_assoc]
    rw [hn]
    rcases List.mem_cons.1 hp with rfl | hp
    · show m ≤ s.next ∧ s.next < s.next + 3; omega
    · rcases List.mem_cons.1 hp with rfl | hp
      · show m ≤ s.next + 1 ∧ s.next + 1 < s.next + 3; omega
      · rcases List.mem_append.1 hp with hp | hp
        · have := h3 p hp; omega
        · have := k3 p hp; omega
theorem many58_fieldR {α : Type} {n m : Nat} (hm : m ≤ s.next) {v : Value} {R : Nat → DS → Value → α → Prop} {rd : RS → α × RS} {row : α → List Value}
    (hG : s.Good) (ha : FieldR E n m s v R rd) (hn : 3 ≤ n) (oR : RdOk rd) (hrow : ∀ o s v x, R o s v x → v = .agg ⟨row x⟩) (hsh : ∀ x, (∃ a b, row x = [.int .i64 a, .int .i64 b])) (hcode : E.fn 58 = some d58) (hintr : E.intr 58 = none) (hcode1 : E.fn 80 = some d80) (hintr1 : E.intr 80 = none) :
    W (dcall E (d + 2) (.func (.func 58) #[] #[]) [v] s) fun r => FieldR E (n + 1) m r.2 r.1 (gepL 2 row) (rdL rd) ∧ Ext [] s r.2 := by
  obtain ⟨f1, a1, b1, g1, p1, q1, D1, rfl, h2, h3, h4⟩ := ha
  refine W_cps fun Q hQ => ?_
  rw [W_enter0 hintr hcode rfl]
  simp (maxSteps := 4000000) (maxDischargeDepth := 8) only [WC_seq, WC_region, WC_cond, WC_skip, contS_normal, contR_ap, WO_nil, WO_pp, condC_false, contO_ap, atS_ap, atB_ap, W_some, W_eq1, W_fadr, W_ld, W_alloc, W_box, W_call, dpure, eqOne, ev_tmp, ev_const, ev_func, putT_some, get_put_eq, get_put_ne, not_false_eq_true, ofList_get, List.getElem?_cons_zero, Option.getD_some, List.map_cons, List.map_nil, ldV_at, Cells.get, getN, cells_agg, if_false, Bool.not_false, Bool.false_eq_true, pp, nextN, Nat.add_zero, get_new_at, get_new_ne, good_new, eq_lt, Nat.lt_add_one, d58, hG]
  obtain ⟨S, hS⟩ : ∃ S : DS, S = (s.new (.cells (.list [.func (.func f1) a1 b1, .func (.func g1) p1 q1]) false)).new (.cells (.list [.nilFunc, .nilFunc]) false) := ⟨_, rfl⟩
  rw [← hS]
  have XS : Ext [] s S := by rw [hS]; exact Ext.new.trans' Ext.new
  have nS : S.next = s.next + 2 := by rw [hS]; simp (maxSteps := 4000000) (maxDischargeDepth := 8) only [Nat.reduceAdd, nextN, Nat.add_assoc]
  have hGS := XS.good hG
  have S0 : S.get s.next = some (.cells (.list [.func (.func f1) a1 b1, .func (.func g1) p1 q1]) false) := by rw [hS]; simp (maxSteps := 4000000) (maxDischargeDepth := 8) only [nextN, get_new_at, get_new_ne, good_new, Nat.lt_add_one, hG]
  have S1 : S.get (s.next + 1) = some (.cells (.list [.nilFunc, .nilFunc]) false) := by rw [hS]; simp (maxSteps := 4000000) (maxDischargeDepth := 8) only [nextN, get_new_at, good_new, hG]
  have wS : S.wr (s.next + 1) = true := XS.wrs (hG _ (by omega)).2
  refine W.mono (num_ok hP hGS 2 4096) ?_
  rintro ⟨v2, s2⟩ ⟨hv2, n1, n2, X2, hn2⟩
  simp only at hv2 n1 n2 X2 hn2
  subst hv2
  have hG2 := X2.good hGS
  have T1 := X2.keep S1 (by simp)
  have wT := X2.wrs wS
  have hlt : s.next + 1 < s2.next := by omega
  rw [nS] at n1 n2 hn2 ⊢
  simp (maxSteps := 4000000) (maxDischargeDepth := 8) only [WC_seq, WC_region, WC_ret, contS_normal, contR_ap, WO_nil, WO_pp, contO_ap, atD_ap, atG_ap, W_some, W_build, W_mkf, W_st, W_alloc, dread, Ends_ret, ev_tmp, putT_some, putT_none, get_put_eq, get_put_ne, not_false_eq_true, Option.getD_some, dresults, tupled, List.map_cons, List.map_nil, Cells.get, getN, Nat.zero_add, Nat.reduceAdd, st_wr, cells_func, cells_agg, List.length_cons, List.length_nil, allOne, oneCellD, Bool.and_self, Bool.and_true, Bool.and_eq_true, Nat.beq_eq, Nat.ble_eq, Nat.reduceLeDiff, Nat.le_refl, and_self, if_true, DS.wrC, Cells.size, Cells.fillFrom, Cells.set, setN, fillParts, List.take_zero, List.take_succ_cons, List.drop_succ_cons, List.drop_zero, List.nil_append, List.cons_append, List.drop_nil, List.append_nil, DS.upd_get_self, DS.upd_get_ne, DS.upd_wr, Option.map_some, wrN, DS.read, Cells.take, get_new_at, get_new_ne, good_new, DS.upd_good, good_at, eq_lt, eq_gt, Nat.add_assoc, Nat.reduceLT, Nat.lt_add_one, hG2, T1, wT, hlt]
  refine hQ _ ⟨⟨_, _, _, _, _, _, (s2.next, .cells (.list [.func (.func 92) #[] #[.pointer (some ⟨s.next + 2, 0, none⟩), .pointer (some ⟨s.next + 3, 0, none⟩)], .func (.func 94) #[] #[.pointer (some ⟨s.next + 2, 0, none⟩), .pointer (some ⟨s.next + 3, 0, none⟩)]]) false) :: (s.next, .cells (.list [.func (.func f1) a1 b1, .func (.func g1) p1 q1]) false) :: ([(s.next + 2, .cells (.list [.int .i64 ((2 : Nat) : Int)]) false), (s.next + 3, .cells (.list [.int .i64 4096]) false)] ++ D1), rfl, ?_, ?_, many58_get ((num_get hC (b1 := s.next + 2) (b2 := s.next + 3) (size := 2) (most := 4096) (by omega) (by omega)).mono hn) h4 oR hrow hsh (by have := hC.lf; omega) hcode1 hintr1⟩, ?_⟩
  · intro p hp
    rcases List.mem_cons.1 hp with rfl | hp
    · simp (maxSteps := 4000000) (maxDischargeDepth := 8) only [not_false_eq_true, DS.upd_get_self, DS.upd_get_ne, Option.map_some, get_new_at, hG2, show ¬ s2.next = s.next + 1 by omega]
    · rcases List.mem_cons.1 hp with rfl | hp
      · simp (maxSteps := 4000000) (maxDischargeDepth := 8) only [not_false_eq_true, DS.upd_get_ne, get_new_ne, eq_lt, Nat.lt_add_one, hG2, show ¬ s.next = s2.next by omega, show s.next < s2.next by omega, X2.keep S0 (by simp)]
      · rcases List.mem_append.1 hp with hp | hp
        · rcases List.mem_cons.1 hp with rfl | hp
          · simp (maxSteps := 4000000) (maxDischargeDepth := 8) only [not_false_eq_true, DS.upd_get_ne, get_new_ne, eq_gt, Nat.lt_add_one, hG2, show ¬ s.next + 2 = s2.next by omega, show s.next + 2 < s2.next by omega, n1]
            rfl
          · rcases List.mem_cons.1 hp with rfl | hp
            · simp (maxSteps := 4000000) (maxDischargeDepth := 8) only [not_false_eq_true, DS.upd_get_ne, get_new_ne, eq_gt, Nat.reduceLT, Nat.add_lt_add_iff_left, hG2, show ¬ s.next + 3 = s2.next by omega, show s.next + 3 < s2.next by omega, n2]
            · cases hp
        · have h5 := h3 p hp
          have h6 := X2.keep (XS.keep (h2 p hp) (by simp)) (by simp)
          simp (maxSteps := 4000000) (maxDischargeDepth := 8) only [not_false_eq_true, DS.upd_get_ne, get_new_ne, hG2, show ¬ p.1 = s2.next by omega, show ¬ p.1 = s.next + 1 by omega, show p.1 < s2.next by omega, h6]
  · intro p hp
    have hfin : m ≤ p.1 ∧ p.1 < s2.next + 1 := by
      rcases List.mem_cons.1 hp with rfl | hp
      · show m ≤ s2.next ∧ s2.next < s2.next + 1; omega
      · rcases List.mem_cons.1 hp with rfl | hp
        · show m ≤ s.next ∧ s.next < s2.next + 1; omega
        · rcases List.mem_append.1 hp with hp | hp
          · rcases List.mem_cons.1 hp with rfl | hp
            · show m ≤ s.next + 2 ∧ s.next + 2 < s2.next + 1; omega
            · rcases List.mem_cons.1 hp with rfl | hp
              · show m ≤ s.next + 3 ∧ s.next + 3 < s2.next + 1; omega
              · cases hp
          · have h5 := h3 p hp; omega
    simp (maxSteps := 4000000) (maxDischargeDepth := 8) only [DS.upd_next, nextN]
    exact hfin
  · have X3 := XS.trans' X2
    have X4 : Ext [s2.next, s.next + 1] s2 (((s2.new (.cells (.list [.nilFunc, .nilFunc]) false)).upd s2.next (.cells (.list [.func (.func 92) #[] #[.pointer (some ⟨s.next + 2, 0, none⟩), .pointer (some ⟨s.next + 3, 0, none⟩)], .func (.func 94) #[] #[.pointer (some ⟨s.next + 2, 0, none⟩), .pointer (some ⟨s.next + 3, 0, none⟩)]]) false)).upd (s.next + 1) (.cells (.list [.func (.func 79) #[] #[.pointer (some ⟨s2.next, 0, none⟩), .pointer (some ⟨s.next, 0, none⟩)], .func (.func 80) #[] #[.pointer (some ⟨s2.next, 0, none⟩), .pointer (some ⟨s.next, 0, none⟩)]]) false)) := Ext.new.trans' ((Ext.upd (.inl (by simp))).trans' (Ext.upd (.inl (by simp))))
    exact X3.trans X4 (by simp; omega)
end
end Go.Dx.StA
/- A store is read from its code (made by tools/gen.py out of unpack.t). -/
set_option linter.unusedVariables false
set_option linter.unusedSimpArgs false
set_option linter.unusedSectionVars false
set_option maxRecDepth 100000
set_option maxHeartbeats 4000000
namespace Go.Dx.StA
open Go Go.Dx Go.Dx.Search Go.Dx.St Go.Proofs.Ytnmajohhfcgddaa

structure UpFns (E : Env) : Prop where
  f82 : E.fn 82 = some d82
  i82 : E.intr 82 = none
  f80 : E.fn 80 = some d80
  i80 : E.intr 80 = none
  f77 : E.fn 77 = some d77
  i77 : E.intr 77 = none
  f55 : E.fn 55 = some d55
  i55 : E.intr 55 = none
  f37 : E.fn 37 = some d37
  i37 : E.intr 37 = none
  f15 : E.fn 15 = some d15
  i15 : E.intr 15 = none
def entR (x : Ent) : List Value := [.int .i64 x.1, .int .i64 x.2]
theorem entR_ok (o : Nat) (s : DS) (v : Value) (x : Ent) (h : gepP repI' repI' o s v x) : v = .agg ⟨entR x⟩ := by
  obtain ⟨a, b, e, h1, h2⟩ := h
  have h1 : a = _ := h1
  have h2 : b = _ := h2
  subst h1 h2
  exact e
def gepSt : Nat → DS → Value → StForm → Prop := gepP repI' (gepL 2 entR)
def rdSt : RS → StForm × RS := rdP (rdN 2 65535) (rdL (rdP (rdN 8 0) (rdN 8 0)))
theorem rdSt_ok : RdOk rdSt := rdP_ok (rdN_ok _ _) (rdL_ok (rdP_ok (rdN_ok _ _) (rdN_ok _ _)))
theorem rdSt_back : Back rdSt encSt := rdP_back (rdN_ok _ _) (rdL_ok (rdP_ok (rdN_ok _ _) (rdN_ok _ _))) (rdN_back (by decide)) (rdL_back (rdP_ok (rdN_ok _ _) (rdN_ok _ _)) (rdP_back (rdN_ok _ _) (rdN_ok _ _) (rdN_back (by decide)) (rdN_back (by decide))))
section
variable {E : Env} (hC : CFns E) (hG' : GFns E) (hP : PkFns E) (hU : UpFns E) {s : DS} {d : Nat}
include hC hG' hP hU
theorem formR_ok (hG : s.Good) : W (dcall E (d + 3) (.func (.func 38) #[] #[]) [] s) fun r => FieldR E 6 s.next r.2 r.1 gepSt rdSt ∧ Ext [] s r.2 := by
  refine W_cps fun Q hQ => ?_
  rw [W_enter0 hP.i38 hP.f38 rfl]
  simp (maxSteps := 4000000) (maxDischargeDepth := 8) only [WC_seq, WC_region, contS_normal, contR_ap, WO_nil, WO_pp, contO_ap, W_alloc, W_call, ev_func, putT_some, List.map_nil, pp, d38, hG]
  have h0 : ∀ o, (s.new o).get s.next = some o := fun o => DS.new_get_self hG
  have w0 : (s.new (.cells (.list [.nilFunc, .nilFunc]) false)).wr s.next = true := (hG _ (Nat.le_refl _)).2
  refine W.mono (num57_fieldR hG' hC (m := s.next + 1) (DS.new_good hG) (Nat.le_refl _) hP.f57 hP.i57) ?_
  rintro ⟨v1, s1⟩ ⟨q1, X1⟩
  simp only at q1 X1
  have hG1 := X1.good (DS.new_good hG)
  simp (maxSteps := 4000000) only [WO_pp, contO_ap, W_call, ev_func, putT_some, List.map_nil]
  refine W.mono (num60_fieldR hG' hC (m := s.next + 1) hG1 X1.le hP.f60 hP.i60) ?_
  rintro ⟨v2, s2⟩ ⟨q2, X2⟩
  simp only at q2 X2
  have hG2 := X2.good hG1
  simp (maxSteps := 4000000) only [WO_pp, contO_ap, W_call, ev_func, putT_some, List.map_nil]
  refine W.mono (num60_fieldR hG' hC (m := s.next + 1) hG2 (Nat.le_trans X1.le X2.le) hP.f60 hP.i60) ?_
  rintro ⟨v3, s3⟩ ⟨q3, X3⟩
  simp only at q3 X3
  have hG3 := X3.good hG2
  simp (maxSteps := 4000000) only [WO_pp, contO_ap, W_call, ev_tmp, ev_func, putT_some, get_put_eq, get_put_ne, Nat.reduceEqDiff, not_false_eq_true, Option.getD_some, List.map_cons, List.map_nil]
  refine W.mono (both59_fieldR hG' hC (Nat.le_trans X1.le (Nat.le_trans X2.le X3.le)) hG3 (q2.keep X3) q3 hP.f59 hP.i59 fun ha hb => both59_get ha hb repI'_ok repI'_ok (rdN_ok 8 0) (fun _ _ _ x h => ⟨x, h⟩) (fun _ _ _ x h => ⟨x, h⟩) hU.f82 hU.i82) ?_
  rintro ⟨v4, s4⟩ ⟨q4, X4⟩
  simp only at q4 X4
  have hG4 := X4.good hG3
  simp (maxSteps := 4000000) only [WO_pp, contO_ap, W_call, ev_tmp, ev_func, putT_some, get_put_eq, Option.getD_some, List.map_cons, List.map_nil]
  refine W.mono (many58_fieldR hG' hC (Nat.le_trans X1.le (Nat.le_trans X2.le (Nat.le_trans X3.le X4.le))) hG4 q4 (by omega) (row := entR) (rdP_ok (rdN_ok 8 0) (rdN_ok 8 0)) entR_ok (fun x => ⟨_, _, rfl⟩) hP.f58 hP.i58 hU.f80 hU.i80) ?_
  rintro ⟨v5, s5⟩ ⟨q5, X5⟩
  simp only at q5 X5
  have hG5 := X5.good hG4
  simp (maxSteps := 4000000) only [WO_pp, contO_ap, W_call, ev_tmp, ev_func, putT_some, get_put_eq, get_put_ne, Nat.reduceEqDiff, not_false_eq_true, Option.getD_some, List.map_cons, List.map_nil]
  have X15 := X2.trans' (X3.trans' (X4.trans' X5))
  refine W.mono (both56_fieldR hG' hC (Nat.le_trans X1.le X15.le) hG5 ((q1.keep X15).mono (show 3 ≤ 5 by omega)) q5 hP.f56 hP.i56 fun ha hb => both56_get ha hb repI'_ok gepL_ok (rdN_ok 2 65535) (fun _ _ _ x h => ⟨x, h⟩) (fun _ _ v _ h => by
    obtain ⟨a, c, e⟩ := h.1.shape
    exact ⟨_, _, _, e⟩) hU.f77 hU.i77) ?_
  rintro ⟨v6, s6⟩ ⟨q6, X6⟩
  simp only at q6 X6
  have X06 := X1.trans' (X15.trans' X6)
  have g6 := X06.keep (h0 _) (by simp)
  have w6 := X06.wrs w0
  obtain ⟨f, a, b, g, a', b', D, rfl, k2, k3, k4⟩ := q6
  simp (maxSteps := 4000000) (maxDischargeDepth := 8) only [WC_ret, contS_normal, contR_ap, WO_nil, WO_pp, contO_ap, atD_ap, W_some, W_st, dread, Ends_ret, ev_tmp, putT_some, putT_none, get_put_eq, get_put_ne, not_false_eq_true, Option.getD_some, dresults, tupled, Cells.get, getN, Nat.zero_add, Nat.reduceAdd, st_wr, cells_agg, List.length_cons, List.length_nil, allOne, oneCellD, Bool.and_self, Bool.and_true, Nat.beq_eq, Nat.ble_eq, Nat.le_refl, if_true, DS.wrC, Cells.size, Cells.fillFrom, Cells.set, setN, DS.upd_get_self, Option.map_some, DS.read, Cells.take, eq_lt, Nat.lt_add_one, Nat.succ_pos, g6, w6]
  have X7 : ∀ o, Ext [] s (s6.upd s.next o) := fun o => (Ext.new.trans' X06).trans (Ext.upd (F := [s.next]) (.inl (by simp))) (by simp)
  refine hQ _ ⟨⟨f, a, b, g, a', b', D, rfl, fun p hp => ?_, fun p hp => ?_, k4⟩, X7 _⟩
  · have := (k3 p hp).1
    simp only [DS.new_next] at this
    simp (maxSteps := 4000000) (maxDischargeDepth := 8) only [not_false_eq_true, DS.upd_get_ne, k2 p hp, show ¬ p.1 = s.next by omega]
  · have := k3 p hp
    simp only [DS.new_next] at this
    simp (maxSteps := 4000000) (maxDischargeDepth := 8) only [DS.upd_next]
    omega
end
section
variable {E : Env} (hU : UpFns E) {s : DS} {d : Nat} {bv : Value} {bs : List Int}
include hU
/-- what is left of what was read -/
def nRd (bs : List Int) : Int := (bs.length : Int) - ((rdSt (bs, false)).2.1.length : Int)
theorem First_ok {m : Nat} {fv : Value} (hf : FieldR E 6 m s fv gepSt rdSt) (hv : SlR s bv bs) (hB : IsB bs) (hl : bs.length ≤ 1048576) (hG : s.Good) :
    W (dcall E (d + 7) (.func (.func 55) #[] #[]) [fv, bv] s) fun p => Ext [] s p.2 ∧ if (rdSt (bs, false)).2.2 = true then p.1 = .tuple ⟨[.agg ⟨[.int .i64 0, .slice none 0 0]⟩, .int .i64 0, .int .i64 10]⟩
      else ∃ lv, p.1 = .tuple ⟨[.agg ⟨[.int .i64 (rdSt (bs, false)).1.1, lv]⟩, .int .i64 (nRd bs), .int .i64 0]⟩ ∧ SlC p.2 2 lv ((rdSt (bs, false)).1.2.map entR) ∧ ∀ k, k ∈ blk lv → s.next ≤ k := by
  obtain ⟨f, a, b, g, a', b', D, rfl, hD, hDb, hget⟩ := hf
  obtain ⟨ba, bc, hbv⟩ := hv.len
  have hvl := hv.lt
  refine W_cps fun Q hQ => ?_
  rw [W_enter0 hU.i55 hU.f55 rfl]
  subst hbv
  simp (maxSteps := 4000000) (maxDischargeDepth := 8) only [WC_seq, WC_region, WC_cond, WC_skip, contS_normal, contR_ap, WO_nil, WO_pp, condC_false, contO_ap, atS_ap, atG_ap, atB_ap, W_some, W_mv, W_eq1, W_build, W_fadr, W_ld, W_alloc, W_box, W_call, dpure, eqOne, ev_tmp, ev_const, putT_some, get_put_eq, get_put_ne, not_false_eq_true, ofList_get, List.getElem?_cons_zero, List.getElem?_cons_succ, Option.getD_some, List.map_cons, List.map_nil, ldV_at, Cells.get, getN, Nat.zero_add, Nat.reduceAdd, cells_slice, cells_agg, List.length_cons, List.length_nil, Bool.and_self, Bool.and_eq_true, Nat.beq_eq, Nat.ble_eq, Nat.reduceLeDiff, and_self, if_true, if_false, Bool.not_false, Bool.false_eq_true, fillParts, List.take_zero, List.drop_succ_cons, List.drop_zero, List.nil_append, List.cons_append, pp, pv, pw, pg, nextN, get_new_at, get_new_ne, good_new, eq_lt, lt_add_s, Nat.add_assoc, Nat.reduceLT, Nat.lt_add_one, Nat.succ_pos, d55, hG]
  obtain ⟨S1, hS1⟩ : ∃ S1 : DS, S1 = ((((s.new (.cells (.list [.func (.func f) a b, .func (.func g) a' b']) false)).new (.cells (.list [.int .i64 0, .slice none 0 0]) false)).new (.cells (.list [.int .i64 0, .slice none 0 0]) false)).new (.cells (.list [.slice ba bs.length bc, .bool false]) false)) := ⟨_, rfl⟩
  rw [← hS1]
  have X1 : ∀ F, Ext F s S1 := fun F => by rw [hS1]; exact Ext.new.trans' (Ext.new.trans' (Ext.new.trans' Ext.new))
  have n1 : S1.next = s.next + 4 := by rw [hS1]; rfl
  have gB : S1.get (s.next + 1) = some (.cells (.list [.int .i64 0, .slice none 0 0]) false) := by rw [hS1]; simp (maxSteps := 4000000) (maxDischargeDepth := 8) only [Nat.reduceAdd, nextN, get_new_at, get_new_ne, good_new, Nat.add_assoc, Nat.reduceLT, Nat.lt_add_one, Nat.add_lt_add_iff_left, hG]
  have gC : S1.get (s.next + 2) = some (.cells (.list [.int .i64 0, .slice none 0 0]) false) := by rw [hS1]; simp (maxSteps := 4000000) (maxDischargeDepth := 8) only [Nat.reduceAdd, nextN, get_new_at, get_new_ne, good_new, Nat.add_assoc, Nat.lt_add_one, hG]
  have gI : S1.get (s.next + 3) = some (.cells (.list [.slice ba bs.length bc, .bool false]) false) := by rw [hS1]; simp (maxSteps := 4000000) (maxDischargeDepth := 8) only [Nat.reduceAdd, nextN, get_new_at, good_new, Nat.add_assoc, hG]
  have G1 := (X1 []).good hG
  have w1 : ∀ k, S1.wr (s.next + k) = true := fun k => by rw [(X1 []).wr]; exact (hG _ (by omega)).2
  have I1 : InAt S1 (s.next + 3) (.slice ba bs.length bc) bs false := ⟨gI, w1 3, hv.keep (X1 []) (by simp), fun h => by have := hvl _ h; omega⟩
  refine W.mono (hget d S1 (s.next + 3) _ bs false (hD.keep (X1 []) (by simp)) (fun p hp => by have := hDb p hp; omega) I1 hB hl G1) ?_
  rintro ⟨v2, s2⟩ ⟨bv2, R2, I2, X2, b2⟩
  simp only at R2 I2 X2 b2
  obtain ⟨v1, lv, rfl, hv1, hlv, hbl⟩ := R2
  have hv1 : v1 = _ := hv1
  subst hv1
  have G2 := X2.good G1
  have le2 := X2.le
  have hB2 := X2.keep gB (by simp)
  have hC2 := X2.keep gC (by simp)
  have w2 : ∀ k, s2.wr (s.next + k) = true := fun k => X2.wrs (w1 k)
  have gr2 := I2.gr
  obtain ⟨a2, c2, hb2⟩ := I2.sl.len
  rw [hb2] at gr2
  obtain ⟨al, cl, hlvs⟩ := hlv.shape
  obtain ⟨k, hk⟩ := rdSt_ok.suf (bs, false)
  have hrl : (rdSt (bs, false)).2.1.length ≤ bs.length := by rw [hk]; simp
  have hn : dwrap .i64 ((bs.length : Int) - ((rdSt (bs, false)).2.1.length : Int)) = nRd bs := dwrap_in (by omega) (by omega)
  have hn2 : ¬ (1048576 : Int) < nRd bs := by unfold nRd; omega
  have l1 : s.next + 1 < s2.next := by omega
  have l2 : s.next + 2 < s2.next := by omega
  have l3 : s.next + 3 < s2.next := by omega
  have U : ∀ o1 o2 o3 (F : List Nat), Ext ((s.next + 1) :: F) s2 (((s2.new o1).upd s2.next o2).upd (s.next + 1) o3) := fun o1 o2 o3 F => by
    have u1 : Ext ((s.next + 1) :: F) s2 (s2.new o1) := Ext.new
    have u2 : Ext [s2.next] (s2.new o1) ((s2.new o1).upd s2.next o2) := Ext.upd (.inl (by simp))
    have u3 : Ext ((s.next + 1) :: F) s2 ((s2.new o1).upd s2.next o2) := u1.trans u2 (by simp)
    have u4 : Ext ((s.next + 1) :: F) ((s2.new o1).upd s2.next o2) (((s2.new o1).upd s2.next o2).upd (s.next + 1) o3) := Ext.upd (.inl (List.mem_cons_self ..))
    exact u3.trans' u4
  have V : ∀ o1 o2 o3, Ext [] s (((s2.new o1).upd s2.next o2).upd (s.next + 1) o3) := fun o1 o2 o3 => ((X1 []).trans X2 (by simp)).trans (U o1 o2 o3 []) (by simp)
  simp (maxSteps := 4000000) only [WO_pp, contO_ap, W_st, W_alloc, ev_tmp, putT_some, get_put_eq, get_put_ne, Nat.reduceEqDiff, not_false_eq_true, Option.getD_some, Nat.zero_add, st_wr, cells_int, cells_agg, List.length_cons, allOne, oneCellD, Bool.true_and, Bool.and_eq_true, Nat.beq_eq, Nat.ble_eq, DS.wrC, Cells.size, Cells.fillFrom, Cells.set, List.nil_append, List.cons_append, wrN]
  subst hlvs
  have hne : ¬ s2.next = s.next + 1 := by omega
  cases hbad : (rdSt (bs, false)).2.2 with
  | true =>
    simp only [hbad, if_true] at hQ
    rw [hbad] at gr2
    simp (maxSteps := 4000000) (maxDischargeDepth := 8) only [WC_seq, WC_region, WC_cond, WC_ret, contS_normal, contS_ret, contR_ap, WO_nil, WO_pp, WO_g, gateO_tf, condC_true, contO_ap, atS_ap, atD_ap, W_some, W_mv, W_pick, W_bin, W_nilck, W_fadr, W_blenL, W_ld, W_st, dpure, dbin, dint, dread, Ends_ret, ev_tmp, ev_const, putT_some, putT_none, get_put_eq, get_put_ne, not_false_eq_true, ofList_get, List.getElem?_cons_zero, List.getElem?_cons_succ, Option.getD_some, dresults, tupled, ldV_at, Cells.get, getN, Nat.zero_add, Nat.reduceAdd, st_wr, cells_slice, cells_agg, List.length_cons, List.length_nil, allOne, oneCellD, Bool.and_self, Bool.and_true, Nat.beq_eq, Nat.ble_eq, Nat.le_refl, and_self, if_true, if_false, Bool.false_eq_true, DS.wrC, Cells.size, Cells.fillFrom, Cells.set, setN, List.nil_append, DS.upd_get_self, DS.upd_get_ne, DS.upd_next, DS.upd_wr, Option.map_some, nextN, wrN, W_ldA, ldA, Nat.add_zero, DS.read, Cells.take, get_new_at, get_new_ne, good_new, DS.upd_good, good_at, eq_lt, Nat.reduceLT, Nat.lt_add_one, hB2, hC2, w2, gr2, hn, G2, l1, l2, l3]
    exact hQ _ ⟨V _ _ _, rfl⟩
  | false =>
    simp only [hbad, Bool.false_eq_true, if_false] at hQ
    rw [hbad] at gr2
    simp (maxSteps := 4000000) (maxDischargeDepth := 8) only [WC_seq, WC_region, WC_cond, WC_skip, WC_ret, contS_normal, contR_ap, WO_nil, WO_pp, WO_g, gateO_ff, condC_false, contO_ap, atS_ap, atD_ap, W_some, W_mv, W_pick, W_bin, W_nilck, W_fadr, W_blenL, W_ld, W_st, dpure, dbin, dint, dread, Ends_ret, ev_tmp, ev_const, putT_some, putT_none, get_put_eq, get_put_ne, not_false_eq_true, ofList_get, List.getElem?_cons_zero, List.getElem?_cons_succ, Option.getD_some, dresults, tupled, ldV_at, Cells.get, getN, Nat.zero_add, Nat.reduceAdd, st_wr, cells_slice, cells_agg, List.length_cons, List.length_nil, allOne, oneCellD, Bool.and_self, Bool.and_true, Nat.beq_eq, Nat.ble_eq, Nat.le_refl, and_self, if_true, if_false, Bool.false_eq_true, DS.wrC, Cells.size, Cells.fillFrom, Cells.set, setN, DS.upd_get_self, DS.upd_get_ne, DS.upd_wr, Option.map_some, wrN, W_ldA, ldA, Nat.add_zero, decide_false, DS.read, Cells.take, get_new_at, get_new_ne, good_new, DS.upd_good, good_at, eq_lt, Nat.reduceLT, Nat.lt_add_one, hB2, hC2, w2, gr2, hn, hn2, G2, l1, l2, l3]
    refine hQ _ ⟨V _ _ _, _, rfl, hlv.keep (U _ _ _ []) fun k hk => by have := hbl k hk; simp; omega, fun k hk => by have := hbl k hk; omega⟩
/-- bytes that are all of a code -/
def GoodR (bs : List Int) : Prop := (rdSt (bs, false)).2.2 = false ∧ (rdSt (bs, false)).2.1 = []
theorem Decode_ok {m : Nat} {fv : Value} (hf : FieldR E 6 m s fv gepSt rdSt) (hv : SlR s bv bs) (hB : IsB bs) (hl : bs.length ≤ 1048576) (hG : s.Good) :
    W (dcall E (d + 8) (.func (.func 37) #[] #[]) [fv, bv] s) fun p => Ext [] s p.2 ∧ ((¬ GoodR bs ∧ p.1 = .tuple ⟨[.agg ⟨[.int .i64 0, .slice none 0 0]⟩, .int .i64 10]⟩) ∨
      (GoodR bs ∧ ∃ lv, p.1 = .tuple ⟨[.agg ⟨[.int .i64 (rdSt (bs, false)).1.1, lv]⟩, .int .i64 0]⟩ ∧ SlC p.2 2 lv ((rdSt (bs, false)).1.2.map entR) ∧ ∀ k, k ∈ blk lv → s.next ≤ k)) := by
  obtain ⟨f, a, b, g, a', b', D, rfl, hD, hDb, hget⟩ := hf
  obtain ⟨ba, bc, hbv⟩ := hv.len
  have hvl := hv.lt
  refine W_cps fun Q hQ => ?_
  rw [W_enter0 hU.i37 hU.f37 rfl]
  subst hbv
  simp (maxSteps := 4000000) (maxDischargeDepth := 8) only [WC_seq, WC_region, contS_normal, contR_ap, WO_nil, WO_pp, contO_ap, atS_ap, W_some, W_mv, W_alloc, W_box, W_call, ev_tmp, ev_const, ev_func, putT_some, get_put_eq, get_put_ne, not_false_eq_true, ofList_get, List.getElem?_cons_zero, List.getElem?_cons_succ, Option.getD_some, List.map_cons, List.map_nil, Cells.get, getN, Nat.reduceAdd, cells_agg, pp, pv, nextN, W_ldA, ldA, DS.read, Cells.take, get_new_at, get_new_ne, good_new, eq_lt, lt_add_s, Nat.add_assoc, Nat.reduceLT, Nat.lt_add_one, Nat.succ_pos, d37, hG]
  obtain ⟨S1, hS1⟩ : ∃ S1 : DS, S1 = (((s.new (.cells (.list [.func (.func f) a b, .func (.func g) a' b']) false)).new (.cells (.list [.int .i64 0, .slice none 0 0]) false)).new (.cells (.list [.int .i64 0, .slice none 0 0]) false)) := ⟨_, rfl⟩
  rw [← hS1]
  have X1 : ∀ F, Ext F s S1 := fun F => by rw [hS1]; exact Ext.new.trans' (Ext.new.trans' Ext.new)
  have n1 : S1.next = s.next + 3 := by rw [hS1]; rfl
  have gB : S1.get (s.next + 1) = some (.cells (.list [.int .i64 0, .slice none 0 0]) false) := by rw [hS1]; simp (maxSteps := 4000000) (maxDischargeDepth := 8) only [Nat.reduceAdd, nextN, get_new_at, get_new_ne, good_new, Nat.add_assoc, Nat.lt_add_one, hG]
  have gC : S1.get (s.next + 2) = some (.cells (.list [.int .i64 0, .slice none 0 0]) false) := by rw [hS1]; simp (maxSteps := 4000000) (maxDischargeDepth := 8) only [Nat.reduceAdd, nextN, get_new_at, good_new, Nat.add_assoc, hG]
  have G1 := (X1 []).good hG
  have w1 : ∀ k, S1.wr (s.next + k) = true := fun k => by rw [(X1 []).wr]; exact (hG _ (by omega)).2
  have hf1 : FieldR E 6 m S1 (.agg ⟨[.func (.func f) a b, .func (.func g) a' b']⟩) gepSt rdSt := FieldR.keep ⟨f, a, b, g, a', b', D, rfl, hD, hDb, hget⟩ (X1 [])
  refine W.mono (First_ok hU (d := d) hf1 (hv.keep (X1 []) (by simp)) hB hl G1) ?_
  rintro ⟨v2, s2⟩ ⟨X2, hv2⟩
  simp only at X2 hv2
  have G2 := X2.good G1
  have le2 := X2.le
  have hB2 := X2.keep gB (by simp)
  have hC2 := X2.keep gC (by simp)
  have w2 : ∀ k, s2.wr (s.next + k) = true := fun k => X2.wrs (w1 k)
  obtain ⟨k, hk⟩ := rdSt_ok.suf (bs, false)
  have hrl : (rdSt (bs, false)).2.1.length ≤ bs.length := by rw [hk]; simp
  have l1 : s.next + 1 < s2.next := by omega
  have l2 : s.next + 2 < s2.next := by omega
  have U : ∀ o1 o2 o3 (F : List Nat), Ext ((s.next + 1) :: F) s2 (((s2.new o1).upd s2.next o2).upd (s.next + 1) o3) := fun o1 o2 o3 F => by
    have u1 : Ext ((s.next + 1) :: F) s2 (s2.new o1) := Ext.new
    have u2 : Ext [s2.next] (s2.new o1) ((s2.new o1).upd s2.next o2) := Ext.upd (.inl (by simp))
    have u3 : Ext ((s.next + 1) :: F) s2 ((s2.new o1).upd s2.next o2) := u1.trans u2 (by simp)
    have u4 : Ext ((s.next + 1) :: F) ((s2.new o1).upd s2.next o2) (((s2.new o1).upd s2.next o2).upd (s.next + 1) o3) := Ext.upd (.inl (List.mem_cons_self ..))
    exact u3.trans' u4
  have V : ∀ o1 o2 o3, Ext [] s (((s2.new o1).upd s2.next o2).upd (s.next + 1) o3) := fun o1 o2 o3 => ((X1 []).trans' X2).trans (U o1 o2 o3 []) (by simp)
  have hne : ¬ s2.next = s.next + 1 := by omega
  cases hbad : (rdSt (bs, false)).2.2 with
  | true =>
    simp only [hbad, if_true] at hv2
    subst hv2
    simp (maxSteps := 4000000) (maxDischargeDepth := 8) only [WC_seq, WC_region, WC_cond, WC_block, WC_ret, contS_normal, contS_ret, contB_ret, contR_ap, WO_nil, WO_pp, condC_true, contO_ap, atS_ap, atD_ap, W_some, W_mv, W_bin, W_ext, W_st, W_alloc, dpure, dbin, dint, dread, Ends_ret, ev_tmp, ev_const, putT_some, putT_none, get_put_eq, get_put_ne, not_false_eq_true, Option.getD_some, dresults, tupled, Cells.get, getN, Nat.zero_add, Nat.reduceAdd, st_wr, cells_agg, List.length_cons, List.length_nil, allOne, oneCellD, Bool.and_self, Bool.and_true, Nat.beq_eq, Nat.ble_eq, Nat.le_refl, if_true, Bool.not_false, DS.wrC, Cells.size, Cells.fillFrom, Cells.set, setN, DS.upd_get_self, DS.upd_get_ne, DS.upd_wr, Option.map_some, wrN, W_ldA, ldA, decide_false, Int.reduceEq, DS.read, Cells.take, get_new_at, get_new_ne, good_new, DS.upd_good, good_at, eq_lt, eq_gt, Nat.reduceLT, Nat.lt_add_one, hB2, hC2, w2, G2, l1, l2]
    have hng : ¬ GoodR bs := fun h => by rw [h.1] at hbad; cases hbad
    exact hQ _ ⟨V _ _ _, .inl ⟨hng, rfl⟩⟩
  | false =>
    simp only [hbad, Bool.false_eq_true, if_false] at hv2
    obtain ⟨lv, hv2, hlv, hbl⟩ := hv2
    subst hv2
    obtain ⟨al, cl, hlvs⟩ := hlv.shape
    subst hlvs
    by_cases hr : (rdSt (bs, false)).2.1 = []
    · have e1 : ¬ nRd bs < (bs.length : Int) := by unfold nRd; rw [hr]; simp
      simp (maxSteps := 4000000) (maxDischargeDepth := 8) only [WC_seq, WC_region, WC_cond, WC_block, WC_skip, WC_ret, contS_normal, contB_normal, contR_ap, WO_nil, WO_pp, condC_false, contO_ap, atS_ap, atD_ap, W_some, W_mv, W_bin, W_ext, W_blenL, W_st, W_alloc, dpure, dbin, dint, dread, Ends_ret, ev_tmp, ev_const, putT_some, putT_none, get_put_eq, get_put_ne, not_false_eq_true, ofList_get, List.getElem?_cons_zero, List.getElem?_cons_succ, Option.getD_some, dresults, tupled, Cells.get, getN, Nat.zero_add, Nat.reduceAdd, st_wr, cells_agg, List.length_cons, List.length_nil, allOne, oneCellD, Bool.and_self, Bool.and_true, Nat.beq_eq, Nat.ble_eq, Nat.le_refl, if_true, Bool.not_true, DS.wrC, Cells.size, Cells.fillFrom, Cells.set, setN, DS.upd_get_self, DS.upd_get_ne, DS.upd_wr, Option.map_some, wrN, W_ldA, ldA, decide_true, decide_false, DS.read, Cells.take, get_new_at, get_new_ne, good_new, DS.upd_good, good_at, eq_lt, eq_gt, Nat.reduceLT, Nat.lt_add_one, hB2, hC2, w2, G2, l1, l2, e1]
      exact hQ _ ⟨V _ _ _, .inr ⟨⟨hbad, hr⟩, _, rfl, hlv.keep (U _ _ _ []) fun k hk => by have := hbl k hk; simp; omega, fun k hk => by have := hbl k hk; omega⟩⟩
    · have e1 : nRd bs < (bs.length : Int) := by
        have : 0 < (rdSt (bs, false)).2.1.length := List.length_pos_iff.2 hr
        unfold nRd
        omega
      simp (maxSteps := 4000000) (maxDischargeDepth := 8) only [WC_seq, WC_region, WC_cond, WC_block, WC_ret, contS_normal, contS_ret, contB_ret, contR_ap, WO_nil, WO_pp, condC_true, condC_false, contO_ap, atS_ap, atD_ap, W_some, W_mv, W_bin, W_ext, W_blenL, W_st, W_alloc, dpure, dbin, dint, dread, Ends_ret, ev_tmp, ev_const, putT_some, putT_none, get_put_eq, get_put_ne, not_false_eq_true, ofList_get, List.getElem?_cons_zero, List.getElem?_cons_succ, Option.getD_some, dresults, tupled, Cells.get, getN, Nat.zero_add, Nat.reduceAdd, st_wr, cells_agg, List.length_cons, List.length_nil, allOne, oneCellD, Bool.and_self, Bool.and_true, Nat.beq_eq, Nat.ble_eq, Nat.le_refl, if_true, Bool.not_true, DS.wrC, Cells.size, Cells.fillFrom, Cells.set, setN, DS.upd_get_self, DS.upd_get_ne, DS.upd_wr, Option.map_some, wrN, W_ldA, ldA, decide_true, DS.read, Cells.take, get_new_at, get_new_ne, good_new, DS.upd_good, good_at, eq_lt, eq_gt, Nat.reduceLT, Nat.lt_add_one, hB2, hC2, w2, G2, l1, l2, e1]
      exact hQ _ ⟨V _ _ _, .inl ⟨fun h => hr h.2, rfl⟩⟩
end
/-- bytes that are a store's code -/
def GoodS (bs : List Int) : Prop := GoodR bs ∧ (rdSt (bs, false)).1.1 ≤ 4096 ∧ ((rdSt (bs, false)).1.2.length : Int) ≤ (rdSt (bs, false)).1.1 ∧ Rise (rdSt (bs, false)).1.2
/-- entries up to the n-th rise -/
theorem rise_snoc {L : List Ent} {x : Ent} (h : Rise L) (hx : ∀ y, y ∈ L → y.1 < x.1) : Rise (L ++ [x]) := by
  unfold Rise at *
  rw [List.pairwise_append]
  exact ⟨h, List.pairwise_singleton .., fun a ha b hb => by rw [List.mem_singleton.1 hb]; exact hx a ha⟩
theorem rise_last {L : List Ent} {i : Nat} {x y : Ent} (h : Rise (L.take (i + 1))) (hy : L[i]? = some y) (hxy : y.1 < x.1) : ∀ z, z ∈ L.take (i + 1) → z.1 < x.1 := by
  intro z hz
  rw [List.take_add_one, hy] at hz h
  rcases List.mem_append.1 hz with hz | hz
  · have := (List.pairwise_append.1 h).2.2 z hz y (by simp)
    omega
  · simp at hz
    subst hz
    exact hxy
structure UpI (s0 : DS) (p x : Nat) (room : Int) (L : List Ent) (lv : Value) (n : Nat) (y : St) : Prop where
  ex : ∃ (i : Nat) (kv vv : Value), n = L.length - i ∧ i ≤ L.length ∧ y.defers = [] ∧
    (y.t.get 4 = some (.pointer (some ⟨x, 0, none⟩)) ∧ y.t.get 6 = some (.pointer (some ⟨p, 0, none⟩)) ∧ y.t.get 35 = some lv ∧ y.t.get 36 = some (.int .i64 (L.length : Int)) ∧ y.t.get 37 = some (.int .i64 (i : Int))) ∧
    StAt y.s p kv vv (L.take i) room ∧ (∀ k, k ∈ blk kv ∨ k ∈ blk vv → s0.next ≤ k) ∧ Ext [p] s0 y.s ∧ y.s.Good
section
variable {E : Env} (hC : CFns E) (hG' : GFns E) (hP : PkFns E) (hU : UpFns E) {s : DS} {d : Nat} {bv : Value} {bs : List Int}
include hC hG' hP hU
theorem Unpack_ok (hv : SlR s bv bs) (hB : IsB bs) (hl : bs.length ≤ 1048576) (hG : s.Good) :
    W (dcall E (d + 9) (.func (.func 15) #[] #[]) [bv] s) fun r => Ext [] s r.2 ∧ ((¬ GoodS bs ∧ r.1 = .tuple #[.pointer none, .int .i64 10]) ∨
      (GoodS bs ∧ ∃ p kv vv, r.1 = .tuple #[.pointer (some ⟨p, 0, none⟩), .int .i64 0] ∧ StAt r.2 p kv vv (rdSt (bs, false)).1.2 (rdSt (bs, false)).1.1 ∧ ∀ k, k ∈ own p kv vv → s.next ≤ k)) := by
  have hlf := hC.lf
  refine W_cps fun Q hQ => ?_
  rw [W_enter0 hU.i15 hU.f15 rfl]
  simp (maxSteps := 4000000) only [WC_seq, WC_region, contS_normal, contR_ap, WO_nil, WO_pp, contO_ap, W_mv, W_call, ev_const, ev_func, putT_some, List.map_nil, pp, pv, pw, pg, d15]
  refine W.mono (formR_ok hC hG' hP hU (d := d + 5) hG) ?_
  rintro ⟨fv, s1⟩ ⟨q1, X1⟩
  simp only at q1 X1
  have G1 := X1.good hG
  simp (maxSteps := 4000000) only [WO_pp, contO_ap, W_mv, W_call, ev_tmp, ev_func, putT_some, get_put_eq, get_put_ne, Nat.reduceEqDiff, not_false_eq_true, ofList_get, List.getElem?_cons_zero, Option.getD_some, List.map_cons, List.map_nil, reduceCtorEq]
  refine W.mono (Decode_ok hU (d := d) q1 (hv.keep X1 (by simp)) hB hl G1) ?_
  rintro ⟨v2, s2⟩ ⟨X2, h2⟩
  simp only at X2 h2
  have G2 := X2.good G1
  have le1 := X1.le
  have le2 := X2.le
  obtain ⟨L, hL⟩ : ∃ L, L = (rdSt (bs, false)).1.2 := ⟨_, rfl⟩
  obtain ⟨room, hroom⟩ : ∃ room, room = (rdSt (bs, false)).1.1 := ⟨_, rfl⟩
  have hGS : GoodS bs ↔ GoodR bs ∧ room ≤ 4096 ∧ (L.length : Int) ≤ room ∧ Rise L := by unfold GoodS; rw [hL, hroom]
  rw [← hL, ← hroom] at h2 hQ
  have U : ∀ o1 o2, Ext [] s ((s2.new o1).upd s2.next o2) := fun o1 o2 => by
    have u1 : Ext [] s2 (s2.new o1) := Ext.new
    have u2 : Ext [s2.next] (s2.new o1) ((s2.new o1).upd s2.next o2) := Ext.upd (.inl (by simp))
    exact (X1.trans' X2).trans' (u1.trans u2 (by simp))
  rcases h2 with ⟨hn, rfl⟩ | ⟨hg, lv, rfl, hlv, hbl⟩
  · simp (maxSteps := 4000000) (maxDischargeDepth := 8) only [WC_seq, WC_region, WC_cond, WC_ret, contS_normal, contS_ret, contR_ap, WO_nil, WO_pp, WO_g, gateO_tf, condC_true, contO_ap, atS_ap, atD_ap, W_some, W_mv, W_pick, W_bin, W_ext, W_st, W_alloc, dpure, dbin, dint, Ends_ret, ev_tmp, ev_const, putT_some, putT_none, get_put_eq, get_put_ne, not_false_eq_true, Option.getD_some, dresults, tupled, getN, Nat.zero_add, Nat.reduceAdd, st_wr, cells_agg, List.length_cons, List.length_nil, allOne, oneCellD, Bool.and_self, Bool.and_true, Nat.beq_eq, Nat.ble_eq, Nat.le_refl, if_true, if_false, Bool.not_false, Bool.false_eq_true, DS.wrC, Cells.size, Cells.fillFrom, Cells.set, setN, List.nil_append, DS.upd_next, nextN, wrN, decide_false, Int.reduceEq, get_new_at, good_new, good_at, eq_lt, eq_gt, Nat.reduceLT, Nat.lt_add_one, G2]
    exact hQ _ ⟨U _ _, .inl ⟨fun h => hn h.1, rfl⟩⟩
  obtain ⟨al, cl, hlvs⟩ := hlv.shape
  rw [List.length_map] at hlvs
  by_cases c1 : room ≤ 4096
  case neg =>
    have e1 : (4096 : Int) < room := by omega
    subst hlvs
    simp (maxSteps := 4000000) (maxDischargeDepth := 8) only [WC_seq, WC_region, WC_cond, WC_ret, contS_normal, contS_ret, contR_ap, WO_nil, WO_pp, WO_g, gateO_tf, gateO_ff, condC_true, contO_ap, atS_ap, atD_ap, W_some, W_mv, W_pick, W_bin, W_fadr, W_ext, W_ld, W_st, W_alloc, dpure, dbin, dint, Ends_ret, ev_tmp, ev_const, putT_some, putT_none, get_put_eq, get_put_ne, not_false_eq_true, Option.getD_some, dresults, tupled, ldV_at, Cells.get, getN, Nat.zero_add, Nat.reduceAdd, st_wr, cells_agg, List.length_cons, List.length_nil, allOne, oneCellD, Bool.and_self, Bool.and_true, Nat.beq_eq, Nat.ble_eq, Nat.le_refl, if_true, if_false, Bool.not_true, Bool.false_eq_true, DS.wrC, Cells.size, Cells.fillFrom, Cells.set, setN, List.nil_append, DS.upd_get_self, DS.upd_next, Option.map_some, nextN, wrN, Nat.add_zero, decide_true, get_new_at, good_new, good_at, eq_lt, eq_gt, Nat.reduceLT, Nat.lt_add_one, G2, e1]
    exact hQ _ ⟨U _ _, .inl ⟨fun h => c1 (hGS.1 h).2.1, rfl⟩⟩
  have e1 : ¬ (4096 : Int) < room := by omega
  by_cases c2 : (L.length : Int) ≤ room
  case neg =>
    have e2 : room < (L.length : Int) := by omega
    subst hlvs
    simp (maxSteps := 4000000) (maxDischargeDepth := 8) only [WC_seq, WC_region, WC_cond, WC_ret, contS_normal, contS_ret, contR_ap, WO_nil, WO_pp, WO_g, gateO_ff, condC_true, contO_ap, atS_ap, atD_ap, W_some, W_mv, W_pick, W_bin, W_fadr, W_ext, W_blenL, W_ld, W_st, W_alloc, dpure, dbin, dint, Ends_ret, ev_tmp, ev_const, putT_some, putT_none, get_put_eq, get_put_ne, not_false_eq_true, Option.getD_some, dresults, tupled, ldV_at, Cells.get, getN, Nat.zero_add, Nat.reduceAdd, st_wr, cells_agg, List.length_cons, List.length_nil, allOne, oneCellD, Bool.and_self, Bool.and_true, Nat.beq_eq, Nat.ble_eq, Nat.le_refl, if_true, if_false, Bool.not_true, Bool.false_eq_true, DS.wrC, Cells.size, Cells.fillFrom, Cells.set, setN, DS.upd_get_self, Option.map_some, wrN, Nat.add_zero, decide_true, decide_false, get_new_at, good_new, good_at, eq_lt, eq_gt, Nat.reduceLT, Nat.lt_add_one, G2, e1, e2]
    exact hQ _ ⟨U _ _, .inl ⟨fun h => c2 (hGS.1 h).2.2.1, rfl⟩⟩
  have e2 : ¬ room < (L.length : Int) := by omega
  have hgr : RowsOk 2 (L.map entR) := ⟨fun y hy => by obtain ⟨z, _, rfl⟩ := List.mem_map.1 hy; rfl, fun y hy => by obtain ⟨z, _, rfl⟩ := List.mem_map.1 hy; rfl⟩
  subst hlvs
  simp (maxSteps := 4000000) (maxDischargeDepth := 8) only [WC_seq, WC_region, WC_cond, WC_block, WC_skip, contS_normal, contR_ap, WO_nil, WO_pp, WO_g, gateO_ff, condC_false, contO_ap, atS_ap, atD_ap, atG_ap, W_some, W_mv, W_pick, W_bin, W_build, W_fadr, W_ext, W_blenL, W_ld, W_st, W_alloc, W_box, dpure, dbin, dint, ev_tmp, ev_const, putT_some, putT_none, get_put_eq, get_put_ne, not_false_eq_true, Option.getD_some, ldV_at, Cells.get, getN, Nat.zero_add, Nat.reduceAdd, st_wr, cells_int, cells_agg, List.length_cons, List.length_nil, allOne, oneCellD, Bool.and_self, Bool.and_true, Bool.and_eq_true, Nat.beq_eq, Nat.ble_eq, Nat.le_refl, and_self, if_true, if_false, Bool.not_true, Bool.false_eq_true, DS.wrC, Cells.size, Cells.fillFrom, Cells.set, setN, fillParts, List.take_zero, List.take_succ_cons, List.drop_succ_cons, List.nil_append, List.cons_append, List.drop_nil, List.append_nil, DS.upd_get_self, DS.upd_next, Option.map_some, nextN, wrN, Nat.add_zero, decide_true, decide_false, get_new_at, get_new_ne, good_new, DS.upd_good, good_at, eq_lt, eq_gt, Nat.reduceLT, Nat.lt_add_one, G2, e1, e2]
  obtain ⟨S3, hS3⟩ : ∃ S3 : DS, S3 = ((s2.new (.cells (.list [.int .i64 0, .slice none 0 0]) false)).upd s2.next (.cells (.list [.int .i64 room, .slice al L.length cl]) false)).new (.cells (.list [.slice none 0 0, .slice none 0 0, .int .i64 room]) false) := ⟨_, rfl⟩
  rw [← hS3]
  have X3 : ∀ F, Ext F s2 S3 := fun F => by
    rw [hS3]
    have u1 : Ext F s2 (s2.new (.cells (.list [.int .i64 0, .slice none 0 0]) false)) := Ext.new
    have u2 : Ext [s2.next] (s2.new (.cells (.list [.int .i64 0, .slice none 0 0]) false)) ((s2.new (.cells (.list [.int .i64 0, .slice none 0 0]) false)).upd s2.next (.cells (.list [.int .i64 room, .slice al L.length cl]) false)) := Ext.upd (.inl (by simp))
    exact (u1.trans u2 (by simp)).trans' Ext.new
  have n3 : S3.next = s2.next + 2 := by rw [hS3]; simp (maxSteps := 4000000) (maxDischargeDepth := 8) only [Nat.reduceAdd, DS.upd_next, nextN, Nat.add_assoc]
  have gx : S3.get s2.next = some (.cells (.list [.int .i64 room, .slice al L.length cl]) false) := by rw [hS3]; simp (maxSteps := 4000000) (maxDischargeDepth := 8) only [DS.upd_get_self, DS.upd_next, Option.map_some, nextN, get_new_at, get_new_ne, good_new, DS.upd_good, Nat.lt_add_one, G2]
  have gp : S3.get (s2.next + 1) = some (.cells (.list [.slice none 0 0, .slice none 0 0, .int .i64 room]) false) := by rw [hS3]; simp (maxSteps := 4000000) (maxDischargeDepth := 8) only [DS.upd_next, nextN, get_new_at, good_new, DS.upd_good, G2]
  have G3 := (X3 []).good G2
  have w3 : S3.wr (s2.next + 1) = true := by rw [(X3 []).wr]; exact (G2 _ (by omega)).2
  have hlv3 := hlv.keep (X3 []) (by simp)
  refine WC_loop (UpI S3 (s2.next + 1) s2.next room L (.slice al L.length cl)) L.length (by omega) ⟨0, .slice none 0 0, .slice none 0 0, rfl, Nat.zero_le _, rfl, ?_, ⟨gp, w3, SlC.nil, SlC.nil, by simp [blk], by simp [blk], by simp [blk], List.Pairwise.nil, by simp⟩, by simp [blk], .refl, G3⟩ ?_
  · simp (maxSteps := 4000000) (maxDischargeDepth := 8) only [get_put_eq, get_put_ne, not_false_eq_true, Bool.true_and, true_and, eq_lt, Nat.reduceLT, Nat.lt_add_one]
    rfl
  rintro n ⟨t, S, ds⟩ hn ⟨i, kv, vv, rfl, hi, hds, ⟨t4, t6, t35, t36, t37⟩, c, hfr, X, GS⟩
  simp only at hds t4 t6 t35 t36 t37 c X GS
  subst hds
  have gxS := X.keep gx (by simp)
  have hlvS := hlv3.keep X fun k hk => by have := hlv.lt k hk; simp; omega
  have leS := X.le
  by_cases c3 : i < L.length
  case neg =>
    obtain rfl : i = L.length := by omega
    have e3 : ¬ ((L.length : Nat) : Int) < (L.length : Int) := by omega
    rw [List.take_length] at c
    simp (maxSteps := 4000000) only [WC_seq, WC_region, WC_cond, WC_ret, WC_exit, contS_normal, contS_exit, contB_exit, contR_ap, contL_exit, WO_nil, WO_pp, condC_false, contO_ap, atS_ap, W_some, W_mv, W_bin, dbin, dint, Ends_ret, ev_tmp, ev_const, putT_some, get_put_eq, get_put_ne, Nat.reduceEqDiff, not_false_eq_true, Option.getD_some, dresults, tupled, if_true, decide_false, t4, t6, t35, t36, t37, e3]
    refine hQ _ ⟨((X1.trans' X2).trans' (X3 [])).trans X (by simp; omega), .inr ⟨hGS.2 ⟨hg, c1, c2, c.so⟩, _, kv, vv, rfl, c, fun k hk => ?_⟩⟩
    simp only [own, List.mem_cons, List.mem_append] at hk
    rcases hk with rfl | hk
    · omega
    · have := hfr k hk
      omega
  have e3 : (i : Int) < (L.length : Int) := by omega
  have hx : L[i]? = some L[i] := List.getElem?_eq_getElem c3
  generalize L[i] = x at hx
  have hmx : (L.map entR)[i]? = some (entR x) := by rw [List.getElem?_map, hx]; rfl
  have hm2 : ∀ y, y ∈ L.map entR → y.length = 2 := fun y hy => by obtain ⟨z, _, rfl⟩ := List.mem_map.1 hy; rfl
  have hfl : ∀ (j : Nat) (z : Ent), L[j]? = some z → getN (L.map entR).flatten (j * 2) = some (.int .i64 z.1) ∧ getN (L.map entR).flatten (j * 2 + 1) = some (.int .i64 z.2) := fun j z hz => by
    have hmz : (L.map entR)[j]? = some (entR z) := by rw [List.getElem?_map, hz]; rfl
    have h0 := flatten_get (j := 0) hm2 hmz rfl
    have h1 := flatten_get (j := 1) hm2 hmz rfl
    exact ⟨by rwa [Nat.add_zero] at h0, h1⟩
  rcases hlvS with ⟨_, h0⟩ | ⟨b, sp, c', ext, heq, hroom⟩
  · rw [h0] at hmx; simp at hmx
  have hgb := hroom.get
  have hfl' : ∀ (j : Nat) (z : Ent), L[j]? = some z → getN ((L.map entR).flatten ++ ext) (j * 2) = some (.int .i64 z.1) ∧ getN ((L.map entR).flatten ++ ext) (j * 2 + 1) = some (.int .i64 z.2) := fun j z hz => by
    obtain ⟨h0, h1⟩ := hfl j z hz
    have l0 : j * 2 < (L.map entR).flatten.length := by rw [getN_eq] at h0; exact (List.getElem?_eq_some_iff.1 h0).1
    have l1 : j * 2 + 1 < (L.map entR).flatten.length := by rw [getN_eq] at h1; exact (List.getElem?_eq_some_iff.1 h1).1
    exact ⟨by rw [getN_app_l l0]; exact h0, by rw [getN_app_l l1]; exact h1⟩
  obtain ⟨hx0, hx1⟩ := hfl' i x hx
  injection heq with hq1 hq2 hq3
  subst hq1 hq3
  have w1 : dwrap .i64 ((i : Int) + 1) = ((i + 1 : Nat) : Int) := by rw [dwrap_in (by omega) (by omega)]; omega
  have gpS := c.gp
  have wpS := c.wp
  have hpn : s2.next + 1 < S.next := by omega
  have hxn : s2.next < S.next := by omega
  have hbn : b < S.next := DS.get_lt' hgb
  cases i with
  | zero =>
    have e0 : ¬ (0 : Int) < ((0 : Nat) : Int) := by omega
    simp (maxSteps := 4000000) (maxDischargeDepth := 8) only [WC_seq, WC_region, WC_cond, WC_block, WC_skip, contS_normal, contR_ap, WO_nil, WO_pp, WO_g, gateO_ft, condC_true, condC_false, contO_ap, atS_ap, atD_ap, atL_ap, W_some, W_mv, W_pick, W_bin, W_nilck, W_fadr, W_ixL, W_ld, W_st, W_alloc, dpure, dbin, dint, ev_tmp, ev_const, putT_some, putT_none, get_put_eq, get_put_ne, not_false_eq_true, Option.getD_some, ldV_at, Cells.get, getN, Nat.zero_add, Nat.reduceAdd, st_wr, cells_int, cells_agg, List.length_cons, List.length_nil, allOne, oneCellD, Bool.and_self, Bool.and_true, Bool.and_eq_true, Nat.beq_eq, Nat.ble_eq, Nat.blt_eq, Nat.reduceLeDiff, Nat.le_refl, and_self, if_true, if_false, Bool.false_eq_true, DS.wrC, Cells.size, Cells.fillFrom, Cells.set, setN, fillParts, List.take_zero, List.drop_succ_cons, List.nil_append, List.drop_nil, List.append_nil, DS.upd_get_self, DS.upd_get_ne, DS.upd_next, Option.map_some, nextN, wrN, W_app, W_bslice, repeatZ, atL_ap, W_ldA, ldA, Nat.add_zero, asIdx_cast, Nat.mul_one, Nat.zero_mul, decide_true, decide_false, DS.read, Cells.take, get_new_at, get_new_ne, good_new, good_at, eq_lt, eq_gt, Nat.reduceLT, Nat.lt_add_one, t4, t6, t35, t36, t37, e3, hgb, hx0, hx1, c3, GS, e0, gpS, wpS, hpn, hxn]
    have hso : Rise (L.take (0 + 1)) := by rw [List.take_add_one, hx]; exact List.pairwise_singleton ..
    have hpS : ∀ k, k ∈ own (s2.next + 1) kv vv → k < S.next := c.lt
    have hkS : ∀ k, k ∈ blk kv → k < S.next := fun k hk => c.lt k (by simp [own, hk])
    have hvS : ∀ k, k ∈ blk vv → k < S.next := fun k hk => c.lt k (by simp [own, hk])
    obtain ⟨S4, hS4⟩ : ∃ S4 : DS, S4 = (((S.new (.cells (.list [.int .i64 0, .int .i64 0]) false)).upd S.next (.cells (.list [.int .i64 x.1, .int .i64 x.2]) false)).new (.cells (.list [.int .i64 x.1]) false)) := ⟨_, rfl⟩
    rw [← hS4]
    have X4 : ∀ F, Ext F S S4 := fun F => by
      rw [hS4]
      have u1 : Ext F S (S.new (.cells (.list [.int .i64 0, .int .i64 0]) false)) := Ext.new
      have u2 : Ext [S.next] (S.new (.cells (.list [.int .i64 0, .int .i64 0]) false)) ((S.new (.cells (.list [.int .i64 0, .int .i64 0]) false)).upd S.next (.cells (.list [.int .i64 x.1, .int .i64 x.2]) false)) := Ext.upd (.inl (by simp))
      exact (u1.trans u2 (by simp)).trans' Ext.new
    have n4 : S4.next = S.next + 2 := by rw [hS4]; simp (maxSteps := 4000000) (maxDischargeDepth := 8) only [Nat.reduceAdd, DS.upd_next, nextN, Nat.add_assoc]
    have g4 : S4.get S.next = some (.cells (.list [.int .i64 x.1, .int .i64 x.2]) false) := by rw [hS4]; simp (maxSteps := 4000000) (maxDischargeDepth := 8) only [DS.upd_get_self, DS.upd_next, Option.map_some, nextN, get_new_at, get_new_ne, good_new, DS.upd_good, Nat.lt_add_one, GS]
    have g41 : S4.get (S.next + 1) = some (.cells (.list [.int .i64 x.1]) false) := by rw [hS4]; simp (maxSteps := 4000000) (maxDischargeDepth := 8) only [DS.upd_next, nextN, get_new_at, good_new, DS.upd_good, GS]
    have G4 := (X4 []).good GS
    have gp4 := (X4 []).keep gpS (by simp)
    have wp4 := (X4 []).wrs wpS
    have hkl : (keysV (L.take (0))).length = 0 := by show (ints _).length = _; rw [ints_len, List.length_map, List.length_take]; omega
    have hvl : (valsV (L.take (0))).length = 0 := by show (ints _).length = _; rw [ints_len, List.length_map, List.length_take]; omega
    have hK : keysV (L.take (0)) ++ ints [x.1] = keysV (L.take (0 + 1)) := by unfold keysV ints; rw [List.take_add_one (i := 0), hx]; simp
    have hV : valsV (L.take (0)) ++ ints [x.2] = valsV (L.take (0 + 1)) := by unfold valsV ints; rw [List.take_add_one (i := 0), hx]; simp
    have i1 : (ints [x.1]).length = 1 := rfl
    have i2 : (ints [x.2]).length = 1 := rfl
    have hw4 : SlV S4 1 (.slice (some ⟨S.next + 1, 0, none⟩) 1 1) (ints [x.1]) := .inr ⟨S.next + 1, 0, none, 1, rfl, by unfold DS.read; rw [g41]; rfl⟩
    refine W.mono (appC_ok (c.ks.keep (X4 []) (by simp)) hw4 (ints_ok _) (ints_ok _) G4 (by rw [hkl, i1]; omega) (by rw [hkl, i1]; omega)) ?_
    rintro ⟨kv', S5⟩ ⟨k5, X5, b5, _⟩
    simp only at k5 X5 b5
    rw [hK] at k5
    have le5 := X5.le
    have G5 := X5.good G4
    have gp5 := X5.keep gp4 c.pk
    have wp5 := X5.wrs wp4
    have g45 := X5.keep g4 (fun h => by have := hkS _ h; omega)
    have k5l : ∀ k, k ∈ blk kv' → k < S5.next := fun k hk => k5.lt k hk
    obtain ⟨ak, ck, hk5⟩ := k5.shape
    subst hk5
    simp (maxSteps := 4000000) (maxDischargeDepth := 8) only [WC_region, contS_normal, contR_ap, WO_nil, WO_pp, contO_ap, atS_ap, atD_ap, atL_ap, W_some, W_mv, W_nilck, W_fadr, W_ld, W_st, dpure, ev_tmp, putT_some, putT_none, get_put_eq, get_put_ne, not_false_eq_true, Option.getD_some, ldV_at, Cells.get, getN, Nat.zero_add, Nat.reduceAdd, st_wr, cells_int, cells_slice, List.length_cons, List.length_nil, allOne, oneCellD, Bool.and_self, Bool.and_true, Bool.and_eq_true, Nat.beq_eq, Nat.ble_eq, Nat.reduceLeDiff, Nat.le_refl, and_self, if_true, DS.wrC, Cells.size, Cells.fillFrom, Cells.set, setN, fillParts, List.take_zero, List.drop_succ_cons, List.nil_append, List.drop_nil, List.append_nil, DS.upd_get_self, DS.upd_get_ne, DS.upd_next, Option.map_some, W_app, W_bslice, repeatZ, atL_ap, Nat.add_zero, Nat.mul_one, eq_lt, eq_gt, Nat.reduceLT, Nat.lt_add_one, t4, t6, t35, t36, t37, gp5, wp5, g45, G5, show s2.next + 1 < S5.next by omega, show S.next < S5.next by omega, show ¬ S.next = s2.next + 1 by omega]
    obtain ⟨S6, hS6⟩ : ∃ S6 : DS, S6 = ((S5.upd (s2.next + 1) (.cells (.list [.slice ak (keysV (L.take (0 + 1))).length ck, vv, .int .i64 room]) false)).new (.cells (.list [.int .i64 x.2]) false)) := ⟨_, rfl⟩
    rw [← hS6]
    have X6 : Ext [s2.next + 1] S5 S6 := by rw [hS6]; exact (Ext.upd (.inl (by simp))).trans' Ext.new
    have n6 : S6.next = S5.next + 1 := by rw [hS6]; simp (maxSteps := 4000000) (maxDischargeDepth := 8) only [Nat.zero_add, DS.upd_next, nextN]
    have gp6 : S6.get (s2.next + 1) = some (.cells (.list [.slice ak (keysV (L.take (0 + 1))).length ck, vv, .int .i64 room]) false) := by rw [hS6]; simp (maxSteps := 4000000) (maxDischargeDepth := 8) only [Nat.zero_add, DS.upd_get_self, DS.upd_next, Option.map_some, get_new_ne, DS.upd_good, gp5, G5, show s2.next + 1 < S5.next by omega]
    have g61 : S6.get S5.next = some (.cells (.list [.int .i64 x.2]) false) := by rw [hS6]; simp (maxSteps := 4000000) (maxDischargeDepth := 8) only [Nat.zero_add, DS.upd_next, get_new_at, DS.upd_good, G5]
    have G6 := X6.good G5
    have wp6 := X6.wrs wp5
    have pvn : ∀ k, k ∈ blk vv → k ∉ [s2.next + 1] := fun k hk e => c.pv (List.mem_singleton.1 e ▸ hk)
    have vs6 := ((c.vs.keep (X4 []) (by simp)).keep X5 fun k hk h => c.kv k h hk).keep X6 pvn
    have hw6 : SlV S6 1 (.slice (some ⟨S5.next, 0, none⟩) 1 1) (ints [x.2]) := .inr ⟨S5.next, 0, none, 1, rfl, by unfold DS.read; rw [g61]; rfl⟩
    refine W.mono (appC_ok vs6 hw6 (ints_ok _) (ints_ok _) G6 (by rw [hvl, i2]; omega) (by rw [hvl, i2]; omega)) ?_
    rintro ⟨vv', S7⟩ ⟨v7, X7, b7, _⟩
    simp only at v7 X7 b7
    rw [hV] at v7
    have le7 := X7.le
    have G7 := X7.good G6
    have gp7 := X7.keep gp6 c.pv
    have wp7 := X7.wrs wp6
    obtain ⟨av, cv, hv7⟩ := v7.shape
    subst hv7
    have hpk' : s2.next + 1 ∉ blk (.slice ak (keysV (L.take (0 + 1))).length ck) := fun h => by
      rcases b5 _ h with h | h
      · exact c.pk h
      · omega
    have hpv' : s2.next + 1 ∉ blk (.slice av (valsV (L.take (0 + 1))).length cv) := fun h => by
      rcases b7 _ h with h | h
      · exact c.pv h
      · omega
    have hdis : ∀ k, k ∈ blk (.slice ak (keysV (L.take (0 + 1))).length ck) → k ∉ blk vv := fun k hk h => by
      rcases b5 k hk with h1 | h1
      · exact c.kv k h1 h
      · have := hvS k h; omega
    have U8 : ∀ o, Ext [s2.next + 1] S7 (S7.upd (s2.next + 1) o) := fun o => Ext.upd (.inl (by simp))
    simp (maxSteps := 4000000) (maxDischargeDepth := 8) only [WC_region, contS_normal, contB_normal, contR_ap, contL_normal, WO_nil, WO_pp, contO_ap, atS_ap, atD_ap, W_some, W_mv, W_bin, W_nilck, W_fadr, W_st, dpure, dbin, dint, ev_tmp, ev_const, putT_some, putT_none, get_put_eq, get_put_ne, not_false_eq_true, Option.getD_some, Nat.zero_add, Nat.reduceAdd, st_wr, cells_slice, List.length_cons, List.length_nil, allOne, oneCellD, Bool.and_self, Bool.and_true, Nat.beq_eq, Nat.ble_eq, Nat.reduceLeDiff, if_true, DS.wrC, Cells.size, Cells.fillFrom, Cells.set, setN, Nat.add_zero, eq_lt, eq_gt, Nat.reduceLT, Nat.lt_add_one, t4, t6, t35, t36, t37, gp7, wp7, w1]
    refine ⟨L.length - (0 + 1), by omega, ⟨0 + 1, .slice ak (keysV (L.take (0 + 1))).length ck, .slice av (valsV (L.take (0 + 1))).length cv, rfl, by omega, rfl, ?_, ⟨?_, ?_, ?_, ?_, hpk', hpv', ?_, hso, by rw [List.length_take]; omega⟩, ?_, ?_, (U8 _).good G7⟩⟩
    · simp (maxSteps := 4000000) (maxDischargeDepth := 8) only [get_put_eq, get_put_ne, not_false_eq_true, Nat.zero_add, Bool.and_self, and_self, eq_lt, eq_gt, Nat.reduceLT, Nat.lt_add_one, t4, t6, t35, t36, t37]
    · rw [DS.upd_get_self, gp7]; rfl
    · rw [DS.upd_wr]; exact wp7
    · exact ((k5.keep X6 fun k hk e => hpk' (List.mem_singleton.1 e ▸ hk)).keep X7 hdis).keep (U8 _) fun k hk e => hpk' (List.mem_singleton.1 e ▸ hk)
    · exact v7.keep (U8 _) fun k hk e => hpv' (List.mem_singleton.1 e ▸ hk)
    · intro k hk h
      rcases b7 k h with h1 | h1
      · exact hdis k hk h1
      · have := k5l k hk; omega
    · rintro k (hk | hk)
      · rcases b5 k hk with h | h
        · exact hfr k (.inl h)
        · omega
      · rcases b7 k hk with h | h
        · exact hfr k (.inr h)
        · omega
    · exact ((((X.trans' (X4 _)).trans X5 fun k hk => .inr (hfr k (.inl hk))).trans' X6).trans X7 fun k hk => .inr (hfr k (.inr hk))).trans' (U8 _)
  | succ i =>
    have e0 : (0 : Int) < ((i + 1 : Nat) : Int) := by omega
    have hy : L[i]? = some L[i] := List.getElem?_eq_getElem (by omega)
    generalize L[i] = y at hy
    obtain ⟨hy0, hy1⟩ := hfl' i y hy
    have w3 : dwrap .i64 (((i + 1 : Nat) : Int) - 1) = (i : Int) := by rw [dwrap_in (by omega) (by omega)]; omega
    have c3' : i < L.length := by omega
    by_cases c4 : x.1 ≤ y.1
    case pos =>
      simp (maxSteps := 4000000) (maxDischargeDepth := 8) only [WC_seq, WC_region, WC_cond, WC_block, WC_skip, WC_ret, contS_normal, contS_ret, contB_ret, contR_ap, contL_ret, WO_nil, WO_pp, WO_g, gateO_tt, condC_true, contO_ap, atS_ap, atD_ap, W_some, W_mv, W_pick, W_bin, W_fadr, W_ixL, W_ld, W_st, W_alloc, dpure, dbin, dint, Ends_ret, ev_tmp, ev_const, putT_some, putT_none, get_put_eq, get_put_ne, not_false_eq_true, Option.getD_some, dresults, tupled, ldV_at, Cells.get, getN, Nat.zero_add, Nat.reduceAdd, st_wr, cells_agg, List.length_cons, List.length_nil, allOne, oneCellD, Bool.and_self, Bool.and_true, Nat.beq_eq, Nat.ble_eq, Nat.blt_eq, Nat.le_refl, if_true, DS.wrC, Cells.size, Cells.fillFrom, Cells.set, setN, DS.upd_get_self, DS.upd_get_ne, Option.map_some, wrN, W_ldA, ldA, Nat.add_zero, asIdx_cast, decide_true, DS.read, Cells.take, get_new_at, get_new_ne, good_new, good_at, eq_lt, eq_gt, Nat.reduceLT, Nat.lt_add_one, t4, t6, t35, t36, t37, e3, hgb, hx0, hx1, hy0, hy1, c3, c3', GS, e0, gpS, wpS, hpn, hxn, hbn, gxS, w3, c4]
      refine hQ _ ⟨?_, .inl ⟨fun h => ?_, rfl⟩⟩
      · have u1 : Ext [] S (S.new (.cells (.list [.int .i64 0, .int .i64 0]) false)) := Ext.new
        have u2 : Ext [S.next] (S.new (.cells (.list [.int .i64 0, .int .i64 0]) false)) ((S.new (.cells (.list [.int .i64 0, .int .i64 0]) false)).upd S.next (.cells (.list [.int .i64 x.1, .int .i64 x.2]) false)) := Ext.upd (.inl (by simp))
        exact (((X1.trans' X2).trans' (X3 [])).trans X (by simp; omega)).trans' (u1.trans u2 (by simp))
      · have := rise_lt (hGS.1 h).2.2.2 (show i < i + 1 by omega) hy hx
        omega
    have hso : Rise (L.take (i + 1 + 1)) := by
      rw [List.take_add_one (i := i + 1), hx]
      exact rise_snoc c.so (rise_last c.so hy (by omega))
    simp (maxSteps := 4000000) (maxDischargeDepth := 8) only [WC_seq, WC_region, WC_cond, WC_block, WC_skip, contS_normal, contR_ap, WO_nil, WO_pp, WO_g, gateO_tt, condC_true, condC_false, contO_ap, atS_ap, atD_ap, atL_ap, W_some, W_mv, W_pick, W_bin, W_nilck, W_fadr, W_ixL, W_ld, W_st, W_alloc, dpure, dbin, dint, ev_tmp, ev_const, putT_some, putT_none, get_put_eq, get_put_ne, not_false_eq_true, Option.getD_some, ldV_at, Cells.get, getN, Nat.zero_add, Nat.reduceAdd, st_wr, cells_int, cells_agg, List.length_cons, List.length_nil, allOne, oneCellD, Bool.and_self, Bool.and_true, Bool.and_eq_true, Nat.beq_eq, Nat.ble_eq, Nat.blt_eq, Nat.reduceLeDiff, Nat.le_refl, and_self, if_true, DS.wrC, Cells.size, Cells.fillFrom, Cells.set, setN, fillParts, List.take_zero, List.drop_succ_cons, List.nil_append, List.drop_nil, List.append_nil, DS.upd_get_self, DS.upd_get_ne, DS.upd_next, Option.map_some, nextN, wrN, W_app, W_bslice, repeatZ, atL_ap, W_ldA, ldA, Nat.add_zero, asIdx_cast, Nat.mul_one, decide_true, decide_false, DS.read, Cells.take, get_new_at, get_new_ne, good_new, good_at, eq_lt, eq_gt, Nat.reduceLT, Nat.lt_add_one, t4, t6, t35, t36, t37, e3, hgb, hx0, hx1, hy0, hy1, c3, c3', GS, e0, gpS, wpS, hpn, hxn, hbn, gxS, w3, c4]
    have hpS : ∀ k, k ∈ own (s2.next + 1) kv vv → k < S.next := c.lt
    have hkS : ∀ k, k ∈ blk kv → k < S.next := fun k hk => c.lt k (by simp [own, hk])
    have hvS : ∀ k, k ∈ blk vv → k < S.next := fun k hk => c.lt k (by simp [own, hk])
    obtain ⟨S4, hS4⟩ : ∃ S4 : DS, S4 = (((S.new (.cells (.list [.int .i64 0, .int .i64 0]) false)).upd S.next (.cells (.list [.int .i64 x.1, .int .i64 x.2]) false)).new (.cells (.list [.int .i64 x.1]) false)) := ⟨_, rfl⟩
    rw [← hS4]
    have X4 : ∀ F, Ext F S S4 := fun F => by
      rw [hS4]
      have u1 : Ext F S (S.new (.cells (.list [.int .i64 0, .int .i64 0]) false)) := Ext.new
      have u2 : Ext [S.next] (S.new (.cells (.list [.int .i64 0, .int .i64 0]) false)) ((S.new (.cells (.list [.int .i64 0, .int .i64 0]) false)).upd S.next (.cells (.list [.int .i64 x.1, .int .i64 x.2]) false)) := Ext.upd (.inl (by simp))
      exact (u1.trans u2 (by simp)).trans' Ext.new
    have n4 : S4.next = S.next + 2 := by rw [hS4]; simp (maxSteps := 4000000) (maxDischargeDepth := 8) only [Nat.reduceAdd, DS.upd_next, nextN, Nat.add_assoc]
    have g4 : S4.get S.next = some (.cells (.list [.int .i64 x.1, .int .i64 x.2]) false) := by rw [hS4]; simp (maxSteps := 4000000) (maxDischargeDepth := 8) only [DS.upd_get_self, DS.upd_next, Option.map_some, nextN, get_new_at, get_new_ne, good_new, DS.upd_good, Nat.lt_add_one, GS]
    have g41 : S4.get (S.next + 1) = some (.cells (.list [.int .i64 x.1]) false) := by rw [hS4]; simp (maxSteps := 4000000) (maxDischargeDepth := 8) only [DS.upd_next, nextN, get_new_at, good_new, DS.upd_good, GS]
    have G4 := (X4 []).good GS
    have gp4 := (X4 []).keep gpS (by simp)
    have wp4 := (X4 []).wrs wpS
    have hkl : (keysV (L.take (i + 1))).length = i + 1 := by show (ints _).length = _; rw [ints_len, List.length_map, List.length_take]; omega
    have hvl : (valsV (L.take (i + 1))).length = i + 1 := by show (ints _).length = _; rw [ints_len, List.length_map, List.length_take]; omega
    have hK : keysV (L.take (i + 1)) ++ ints [x.1] = keysV (L.take (i + 1 + 1)) := by unfold keysV ints; rw [List.take_add_one (i := i + 1), hx]; simp
    have hV : valsV (L.take (i + 1)) ++ ints [x.2] = valsV (L.take (i + 1 + 1)) := by unfold valsV ints; rw [List.take_add_one (i := i + 1), hx]; simp
    have i1 : (ints [x.1]).length = 1 := rfl
    have i2 : (ints [x.2]).length = 1 := rfl
    have hw4 : SlV S4 1 (.slice (some ⟨S.next + 1, 0, none⟩) 1 1) (ints [x.1]) := .inr ⟨S.next + 1, 0, none, 1, rfl, by unfold DS.read; rw [g41]; rfl⟩
    refine W.mono (appC_ok (c.ks.keep (X4 []) (by simp)) hw4 (ints_ok _) (ints_ok _) G4 (by rw [hkl, i1]; omega) (by rw [hkl, i1]; omega)) ?_
    rintro ⟨kv', S5⟩ ⟨k5, X5, b5, _⟩
    simp only at k5 X5 b5
    rw [hK] at k5
    have le5 := X5.le
    have G5 := X5.good G4
    have gp5 := X5.keep gp4 c.pk
    have wp5 := X5.wrs wp4
    have g45 := X5.keep g4 (fun h => by have := hkS _ h; omega)
    have k5l : ∀ k, k ∈ blk kv' → k < S5.next := fun k hk => k5.lt k hk
    obtain ⟨ak, ck, hk5⟩ := k5.shape
    subst hk5
    simp (maxSteps := 4000000) (maxDischargeDepth := 8) only [WC_region, contS_normal, contR_ap, WO_nil, WO_pp, contO_ap, atS_ap, atD_ap, atL_ap, W_some, W_mv, W_nilck, W_fadr, W_ld, W_st, dpure, ev_tmp, putT_some, putT_none, get_put_eq, get_put_ne, not_false_eq_true, Option.getD_some, ldV_at, Cells.get, getN, Nat.zero_add, Nat.reduceAdd, st_wr, cells_int, cells_slice, List.length_cons, List.length_nil, allOne, oneCellD, Bool.and_self, Bool.and_true, Bool.and_eq_true, Nat.beq_eq, Nat.ble_eq, Nat.reduceLeDiff, Nat.le_refl, and_self, if_true, DS.wrC, Cells.size, Cells.fillFrom, Cells.set, setN, fillParts, List.take_zero, List.drop_succ_cons, List.nil_append, List.drop_nil, List.append_nil, DS.upd_get_self, DS.upd_get_ne, DS.upd_next, Option.map_some, W_app, W_bslice, repeatZ, atL_ap, Nat.add_zero, Nat.mul_one, eq_lt, eq_gt, Nat.add_assoc, Nat.reduceLT, Nat.lt_add_one, t4, t6, t35, t36, t37, gp5, wp5, g45, G5, show s2.next + 1 < S5.next by omega, show S.next < S5.next by omega, show ¬ S.next = s2.next + 1 by omega]
    obtain ⟨S6, hS6⟩ : ∃ S6 : DS, S6 = ((S5.upd (s2.next + 1) (.cells (.list [.slice ak (keysV (L.take (i + 1 + 1))).length ck, vv, .int .i64 room]) false)).new (.cells (.list [.int .i64 x.2]) false)) := ⟨_, rfl⟩
    rw [← hS6]
    have X6 : Ext [s2.next + 1] S5 S6 := by rw [hS6]; exact (Ext.upd (.inl (by simp))).trans' Ext.new
    have n6 : S6.next = S5.next + 1 := by rw [hS6]; simp (maxSteps := 4000000) (maxDischargeDepth := 8) only [Nat.reduceAdd, DS.upd_next, nextN, Nat.add_assoc]
    have gp6 : S6.get (s2.next + 1) = some (.cells (.list [.slice ak (keysV (L.take (i + 1 + 1))).length ck, vv, .int .i64 room]) false) := by rw [hS6]; simp (maxSteps := 4000000) (maxDischargeDepth := 8) only [Nat.reduceAdd, DS.upd_get_self, DS.upd_next, Option.map_some, get_new_ne, DS.upd_good, Nat.add_assoc, gp5, G5, show s2.next + 1 < S5.next by omega]
    have g61 : S6.get S5.next = some (.cells (.list [.int .i64 x.2]) false) := by rw [hS6]; simp (maxSteps := 4000000) (maxDischargeDepth := 8) only [Nat.reduceAdd, DS.upd_next, get_new_at, DS.upd_good, Nat.add_assoc, G5]
    have G6 := X6.good G5
    have wp6 := X6.wrs wp5
    have pvn : ∀ k, k ∈ blk vv → k ∉ [s2.next + 1] := fun k hk e => c.pv (List.mem_singleton.1 e ▸ hk)
    have vs6 := ((c.vs.keep (X4 []) (by simp)).keep X5 fun k hk h => c.kv k h hk).keep X6 pvn
    have hw6 : SlV S6 1 (.slice (some ⟨S5.next, 0, none⟩) 1 1) (ints [x.2]) := .inr ⟨S5.next, 0, none, 1, rfl, by unfold DS.read; rw [g61]; rfl⟩
    refine W.mono (appC_ok vs6 hw6 (ints_ok _) (ints_ok _) G6 (by rw [hvl, i2]; omega) (by rw [hvl, i2]; omega)) ?_
    rintro ⟨vv', S7⟩ ⟨v7, X7, b7, _⟩
    simp only at v7 X7 b7
    rw [hV] at v7
    have le7 := X7.le
    have G7 := X7.good G6
    have gp7 := X7.keep gp6 c.pv
    have wp7 := X7.wrs wp6
    obtain ⟨av, cv, hv7⟩ := v7.shape
    subst hv7
    have hpk' : s2.next + 1 ∉ blk (.slice ak (keysV (L.take (i + 1 + 1))).length ck) := fun h => by
      rcases b5 _ h with h | h
      · exact c.pk h
      · omega
    have hpv' : s2.next + 1 ∉ blk (.slice av (valsV (L.take (i + 1 + 1))).length cv) := fun h => by
      rcases b7 _ h with h | h
      · exact c.pv h
      · omega
    have hdis : ∀ k, k ∈ blk (.slice ak (keysV (L.take (i + 1 + 1))).length ck) → k ∉ blk vv := fun k hk h => by
      rcases b5 k hk with h1 | h1
      · exact c.kv k h1 h
      · have := hvS k h; omega
    have U8 : ∀ o, Ext [s2.next + 1] S7 (S7.upd (s2.next + 1) o) := fun o => Ext.upd (.inl (by simp))
    simp (maxSteps := 4000000) (maxDischargeDepth := 8) only [WC_region, contS_normal, contB_normal, contR_ap, contL_normal, WO_nil, WO_pp, contO_ap, atS_ap, atD_ap, W_some, W_mv, W_bin, W_nilck, W_fadr, W_st, dpure, dbin, dint, ev_tmp, ev_const, putT_some, putT_none, get_put_eq, get_put_ne, not_false_eq_true, Option.getD_some, Nat.zero_add, Nat.reduceAdd, st_wr, cells_slice, List.length_cons, List.length_nil, allOne, oneCellD, Bool.and_self, Bool.and_true, Nat.beq_eq, Nat.ble_eq, Nat.reduceLeDiff, if_true, DS.wrC, Cells.size, Cells.fillFrom, Cells.set, setN, Nat.add_zero, eq_lt, eq_gt, Nat.add_assoc, Nat.reduceLT, Nat.lt_add_one, t4, t6, t35, t36, t37, gp7, wp7, w1]
    refine ⟨L.length - (i + 1 + 1), by omega, ⟨i + 1 + 1, .slice ak (keysV (L.take (i + 1 + 1))).length ck, .slice av (valsV (L.take (i + 1 + 1))).length cv, rfl, by omega, rfl, ?_, ⟨?_, ?_, ?_, ?_, hpk', hpv', ?_, hso, by rw [List.length_take]; omega⟩, ?_, ?_, (U8 _).good G7⟩⟩
    · simp (maxSteps := 4000000) (maxDischargeDepth := 8) only [get_put_eq, get_put_ne, not_false_eq_true, Nat.reduceAdd, Bool.and_self, and_self, eq_lt, eq_gt, Nat.add_assoc, Nat.reduceLT, Nat.lt_add_one, t4, t6, t35, t36, t37]
    · rw [DS.upd_get_self, gp7]; rfl
    · rw [DS.upd_wr]; exact wp7
    · exact ((k5.keep X6 fun k hk e => hpk' (List.mem_singleton.1 e ▸ hk)).keep X7 hdis).keep (U8 _) fun k hk e => hpk' (List.mem_singleton.1 e ▸ hk)
    · exact v7.keep (U8 _) fun k hk e => hpv' (List.mem_singleton.1 e ▸ hk)
    · intro k hk h
      rcases b7 k h with h1 | h1
      · exact hdis k hk h1
      · have := k5l k hk; omega
    · rintro k (hk | hk)
      · rcases b5 k hk with h | h
        · exact hfr k (.inl h)
        · omega
      · rcases b7 k hk with h | h
        · exact hfr k (.inr h)
        · omega
    · exact ((((X.trans' (X4 _)).trans X5 fun k hk => .inr (hfr k (.inl hk))).trans' X6).trans X7 fun k hk => .inr (hfr k (.inr hk))).trans' (U8 _)
end
end Go.Dx.StA
/- The document's answer for a store: what its functions do (made by tools/gen.py out of ref03.t). -/
set_option linter.unusedVariables false
set_option linter.unusedSimpArgs false
set_option linter.unusedSectionVars false
set_option maxRecDepth 100000
set_option maxHeartbeats 4000000
namespace Go.Dx.StA
open Go Go.Dx Go.Dx.Search Go.Dx.St Go.Proofs.Ytnmajohhfcgddaa
theorem entV_at {L : List Ent} {i : Nat} {x : Ent} (h : L[i]? = some x) : (entV L)[i]? = some [.int .i64 x.1, .int .i64 x.2] := by simp [entV, h]
theorem entV_get0 {L : List Ent} {i : Nat} {x : Ent} (h : L[i]? = some x) : getN (entV L).flatten (i * 2) = some (.int .i64 x.1) := by
  have := flatten_get (j := 0) (entV_ok L).len (entV_at h) rfl
  rwa [Nat.add_zero] at this
theorem entV_get1 {L : List Ent} {i : Nat} {x : Ent} (h : L[i]? = some x) : getN (entV L).flatten (i * 2 + 1) = some (.int .i64 x.2) := flatten_get (j := 1) (entV_ok L).len (entV_at h) rfl
theorem appM_ok {s : DS} {sz bytes : Nat} {vx vy : Value} {lx ly : List (List Value)} {nt : List Note} {haz : List Nat} (hx : SlX s sz vx lx) (hy : SlV s sz vy ly) (ox : RowsOk sz lx) (oy : RowsOk sz ly) (hG : s.Good) (hn : lx.length + ly.length ≤ 1099511627776) (hb : (lx.length + ly.length) * bytes ≤ 1099511627776)
    (h1 : ∀ k, k ∈ blk vx → hidden nt haz k = false ∧ shielded nt haz k = false) (h2 : ∀ k, k ∈ blk vy → hidden nt haz k = false) (h3 : ∀ k, s.next ≤ k → hidden nt haz k = false ∧ shielded nt haz k = false) :
    W (appV bytes sz vx vy (mask s nt haz)) fun r => SlX (unmask s r.2) sz r.1 (lx ++ ly) ∧ Ext (blk vx) s (unmask s r.2) ∧ (∀ k, k ∈ blk r.1 → k ∈ blk vx ∨ s.next ≤ k) ∧ r.2.next = (unmask s r.2).next := by
  obtain ⟨⟨v, s1⟩, e, x, X, b⟩ := appV_ok (bytes := bytes) (hx.of (s' := mask s nt haz) fun k hk => ⟨mask_get (h1 k hk).1, fun hw => mask_wr hw (h1 k hk).1 (h1 k hk).2⟩) (hy.of (s' := mask s nt haz) fun k hk => mask_get (h2 k hk)) ox oy (mask_good hG h3) hn hb
  simp only at x X b
  have df : DFrame (mask s nt haz) s1 := write_frame e
  refine ⟨(v, s1), e, x.of fun k hk => ?_, Ext.unmask' X df, b, rfl⟩
  have hh : hidden nt haz k = false := by
    rcases b k hk with h | h
    · exact (h1 k h).1
    · exact (h3 k h).1
  refine ⟨unmask_at hh X, fun hw => ?_⟩
  rw [X.wr] at hw
  simp [mask] at hw
  exact hw.1.1
theorem entV_set {L : List Ent} {i : Nat} {k v w : Int} (h : L[i]? = some (k, w)) : setN (entV L).flatten (i * 2 + 1) (.int .i64 v) = (entV (L.set i (k, v))).flatten := by
  induction L generalizing i with
  | nil => simp at h
  | cons a L ih =>
    cases i with
    | zero =>
      simp at h
      subst h
      rfl
    | succ i =>
      have := ih (i := i) (by simpa using h)
      show setN (.int .i64 a.1 :: .int .i64 a.2 :: (entV L).flatten) ((i + 1) * 2 + 1) _ = .int .i64 a.1 :: .int .i64 a.2 :: (entV (L.set i (k, v))).flatten
      rw [show (i + 1) * 2 + 1 = (i * 2 + 1) + 1 + 1 by omega, ← this]
      rfl
structure R3Fns (E : Env) : Prop where
  fFind : E.fn 47 = some d47
  iFind : E.intr 47 = none
  fNew : E.fn 25 = some d25
  iNew : E.intr 25 = none
  fPut : E.fn 26 = some d26
  iPut : E.intr 26 = none
/-- a reference store in memory -/
structure RefS (s : DS) (q : Nat) (v : Value) (L : List Ent) (room : Int) : Prop where
  gq : s.get q = some (.cells (.list [v, .int .i64 room]) false)
  wq : s.wr q = true
  sl : SlX s 2 v (entV L)
  ne : q ∉ blk v
  so : Rise L
section
variable {s s' : DS} {q : Nat} {v : Value} {L : List Ent} {room : Int} {F : List Nat}
theorem RefS.keep (c : RefS s q v L room) (e : Ext F s s') (hq : q ∉ F) (hb : ∀ k, k ∈ blk v → k ∉ F) : RefS s' q v L room :=
  ⟨e.keep c.gq hq, e.wrs c.wq, c.sl.keep e hb, c.ne, c.so⟩
structure RFindI (s : DS) (q : Nat) (L : List Ent) (k : Int) (n : Nat) (x : St) : Prop where
  ex : ∃ i : Nat, n = L.length - i ∧ i ≤ L.length ∧ x.s = s ∧ x.defers = [] ∧ (x.t.get 0 = some (.pointer (some ⟨q, 0, none⟩)) ∧ x.t.get 1 = some (.int .i64 k) ∧ x.t.get 6 = some (.int .i64 (i : Int))) ∧ ∀ j y, j < i → L[j]? = some y → y.1 < k
variable {E : Env} (hR : R3Fns E) {d : Nat}
include hR
theorem rfind_ok (hlf : L.length < E.lf) (hl : L.length < 1000000) (c : RefS s q v L room) (k : Int) : dcall E (d + 1) (.func (.func 47) #[] #[]) [.pointer (some ⟨q, 0, none⟩), .int .i64 k] s = some (.tuple ⟨[.int .i64 (pos k L : Int), .bool (isAt k L)]⟩, s) := by
  have gq := c.gq
  obtain ⟨a, hv⟩ := c.sl.shape
  rw [entV_len] at hv
  rw [← W_iff, W_enter0 hR.iFind hR.fFind rfl]
  simp (maxSteps := 4000000) only [WC_seq, WC_region, WC_block, contS_normal, contR_ap, WO_nil, WO_pp, contO_ap, W_mv, ev_const, putT_some, pp, pv, pw, pg, d47]
  refine WC_loop (RFindI s q L k) L.length hlf ⟨0, rfl, Nat.zero_le _, rfl, rfl, ?_, fun j y hj => absurd hj (Nat.not_lt_zero _)⟩ ?_
  · simp (maxSteps := 4000000) only [get_put_eq, get_put_ne, Nat.reduceEqDiff, not_false_eq_true, ofList_get, List.getElem?_cons_zero, List.getElem?_cons_succ, Bool.true_and, true_and, reduceCtorEq]
    rfl
  rintro n ⟨t, s2, ds⟩ hn ⟨i, rfl, hi, hs, hds, ⟨g0, g1, g6⟩, hno⟩
  simp only at hs hds g0 g1 g6
  subst hs hds
  by_cases c1 : i < L.length
  · have hx : L[i]? = some L[i] := List.getElem?_eq_getElem c1
    generalize L[i] = x at hx
    have e1 : (i : Int) < (L.length : Int) := by omega
    obtain ⟨b, sp, hv', _, hb, _⟩ := c.sl.at (fun e => by have := entV_len L; rw [e] at this; simp at this; omega)
    rw [entV_len] at hv'
    rw [hv'] at gq
    have w2 : dwrap .i64 ((i : Int) + 1) = ((i + 1 : Nat) : Int) := by rw [dwrap_in (by omega) (by omega)]; omega
    by_cases c2 : x.1 < k
    · simp (maxSteps := 4000000) only [WC_seq, WC_region, WC_cond, WC_block, WC_skip, contS_normal, contB_normal, contR_ap, contL_normal, WO_nil, WO_pp, WO_g, gateO_tt, condC_true, contO_ap, atS_ap, W_some, W_mv, W_pick, W_bin, W_nilck, W_fadr, W_ixL, W_blenL, W_ld, dpure, dbin, dint, ev_tmp, ev_const, putT_some, get_put_eq, get_put_ne, Nat.reduceEqDiff, not_false_eq_true, Option.getD_some, ldV_at, Cells.get, getN, Nat.zero_add, Nat.blt_eq, if_true, reduceCtorEq, Nat.add_zero, asIdx_cast, decide_true, g0, g1, g6, gq, hb, e1, c1, entV_get0 hx, c2, w2]
      refine ⟨L.length - (i + 1), by omega, ⟨i + 1, rfl, by omega, rfl, rfl, by simp (maxSteps := 4000000) only [get_put_eq, get_put_ne, Nat.reduceEqDiff, not_false_eq_true, Bool.and_self, and_self, reduceCtorEq, g0, g1], fun j y hj hy => ?_⟩⟩
      by_cases e : j = i
      · subst e; rw [hx] at hy; cases hy; exact c2
      · exact hno j y (by omega) hy
    · have hpos : pos k L = i := pos_eq c.so (by omega) hno fun y hy => by rw [hx] at hy; cases hy; exact c2
      have hat : isAt k L = decide (x.1 = k) := by unfold isAt; rw [hpos, hx]
      rw [hat, hpos]
      simp (maxSteps := 4000000) only [WC_seq, WC_region, WC_cond, WC_ret, WC_exit, contS_normal, contS_exit, contB_exit, contR_ap, contL_exit, WO_nil, WO_pp, WO_g, gateO_tt, condC_false, contO_ap, atS_ap, W_some, W_mv, W_pick, W_bin, W_nilck, W_fadr, W_ixL, W_blenL, W_ld, dpure, dbin, dint, Ends_ret, ev_tmp, ev_const, putT_some, get_put_eq, get_put_ne, Nat.reduceEqDiff, not_false_eq_true, Option.getD_some, dresults, tupled, ldV_at, Cells.get, getN, Nat.zero_add, Nat.blt_eq, if_true, reduceCtorEq, Nat.add_zero, asIdx_cast, decide_true, decide_false, g0, g1, g6, gq, hb, e1, c1, entV_get0 hx, c2]
  · have hi' : i = L.length := by omega
    have e1 : ¬ (i : Int) < (L.length : Int) := by omega
    have hnone : L[i]? = none := List.getElem?_eq_none (by omega)
    have hpos : pos k L = i := pos_eq c.so (by omega) hno fun y hy => by rw [hnone] at hy; cases hy
    have hat : isAt k L = false := by unfold isAt; rw [hpos, hnone]
    rw [hat, hpos]
    rw [hv] at gq
    simp (maxSteps := 4000000) only [WC_seq, WC_region, WC_cond, WC_ret, WC_exit, contS_normal, contS_exit, contB_exit, contR_ap, contL_exit, WO_nil, WO_pp, WO_g, gateO_ft, condC_false, contO_ap, atS_ap, W_some, W_mv, W_pick, W_bin, W_nilck, W_fadr, W_blenL, W_ld, dpure, dbin, dint, Ends_ret, ev_tmp, ev_const, putT_some, get_put_eq, get_put_ne, Nat.reduceEqDiff, not_false_eq_true, Option.getD_some, dresults, tupled, ldV_at, Cells.get, getN, if_true, if_false, reduceCtorEq, Bool.false_eq_true, List.nil_append, Nat.add_zero, decide_false, g0, g1, g6, gq, e1]
theorem rput_ok (hlf : L.length < E.lf) (hl : L.length < 1000000) (c : RefS s q v L room) (hG : s.Good) (k x : Int) :
    W (dcall E (d + 2) (.func (.func 26) #[] #[]) [.pointer (some ⟨q, 0, none⟩), .int .i64 k, .int .i64 x] s) fun r => r.1 = .int .i64 (putE k L room) ∧ ∃ w, RefS r.2 q w (putR k x L room) room ∧ Ext [q] s r.2 ∧ ∀ j, j ∈ blk w → j ∈ blk v ∨ s.next ≤ j := by
  have hfind := rfind_ok hR hlf hl c k (d := d)
  have gq := c.gq
  have wq := c.wq
  have hql := DS.get_lt' gq
  have hvl := c.sl.lt
  obtain ⟨av, hv⟩ := c.sl.shape
  have hel := entV_len L
  have hple := pos_le k L
  refine W_cps fun Q hQ => ?_
  rw [W_enter0 hR.iPut hR.fPut rfl]
  have hnq : ∀ o, (s.new o).get q = some (.cells (.list [v, .int .i64 room]) false) := fun o => (DS.new_get_lt hql).trans gq
  by_cases hin : isAt k L = true
  · rw [hin] at hfind
    obtain ⟨⟨k', w0⟩, hx, hk⟩ := isAt_true hin
    simp only at hk
    subst hk
    have hil := (List.getElem?_eq_some_iff.1 hx).1
    have hpe : putE k' L room = 0 := by unfold putE; rw [if_pos hin]
    have hpr : putR k' x L room = L.set (pos k' L) (k', x) := by unfold putR putL; rw [if_pos hin, if_pos hin]
    simp (maxSteps := 4000000) only [WC_seq, WC_region, WC_cond, contS_normal, contR_ap, WO_nil, WO_pp, condC_true, contO_ap, atS_ap, atL_ap, W_some, W_mv, W_nilck, W_fadr, W_ext, W_ld, W_call, dpure, ev_tmp, ev_const, ev_func, putT_some, get_put_eq, get_put_ne, Nat.reduceEqDiff, not_false_eq_true, ofList_get, List.getElem?_cons_zero, List.getElem?_cons_succ, Option.getD_some, List.map_cons, List.map_nil, ldV_at, Cells.get, getN, Nat.ble_eq, Nat.reduceLeDiff, reduceCtorEq, fillParts, pp, pv, W_app, W_bslice, repeatZ, atL_ap, Nat.add_zero, Nat.zero_mul, d26, hfind, hnq, gq]
    refine W.mono (appV_ok (lx := []) (ly := entV L) (.inr ⟨s.next, none, rfl, .inl rfl, DS.new_get_self hG, (hG _ (Nat.le_refl _)).2⟩) ((c.sl.view (entV_ok L)).of fun j hj => DS.new_get_lt (hvl j hj)) RowsOk.nil (entV_ok L) (DS.new_good hG) (by simp [entV]; omega) (by simp [entV]; omega)) ?_
    rintro ⟨w3, s3⟩ ⟨x3, X3, b3⟩
    simp only [blk, List.nil_append] at x3 X3 b3
    obtain ⟨b, sp, hw3, hsp, hb, hwb⟩ := x3.at (fun e => by rw [e] at hel; simp at hel; omega)
    rw [entV_len] at hw3
    subst hw3
    have hbn : s.next ≤ b := by
      rcases b3 b (by simp [blk]) with h | h
      · simp at h; omega
      · have : s.next + 1 ≤ b := h
        omega
    have X13 : Ext [] s s3 := (Ext.new (F := [])).trans X3 (by simp)
    have gq3 := X13.keep gq (by simp)
    have wq3 := X13.wrs wq
    have hfl : (entV L).flatten.length = L.length * 2 := by rw [(entV_ok L).flat, hel]
    have hb1 : pos k' L * 2 + 2 ≤ L.length * 2 := by omega
    have hqb : ¬ q = b := by omega
    have hbq : ¬ b = q := by omega
    have hgs : (pos k' L * 2 + 1) + 1 ≤ (entV L).flatten.length := by omega
    simp (maxSteps := 4000000) only [WC_seq, WC_region, WC_ret, contS_normal, contS_ret, contR_ap, WO_nil, WO_pp, contO_ap, atS_ap, atD_ap, W_some, W_mv, W_nilck, W_fadr, W_ixL, W_st, dpure, Ends_ret, ev_tmp, ev_const, putT_some, putT_none, get_put_eq, get_put_ne, Nat.reduceEqDiff, not_false_eq_true, ofList_get, List.getElem?_cons_zero, List.getElem?_cons_succ, Option.getD_some, dresults, tupled, Nat.zero_add, Nat.reduceAdd, st_wr, cells_int, cells_slice, List.length_cons, List.length_nil, allOne, oneCellD, Bool.and_self, Bool.and_true, Nat.beq_eq, Nat.ble_eq, Nat.blt_eq, Nat.reduceLeDiff, if_true, reduceCtorEq, DS.wrC, Cells.size, Cells.fillFrom, Cells.set, setN, DS.upd_get_ne, DS.upd_wr, Nat.add_zero, asIdx_cast, hb, hwb, hil, gq3, wq3, hqb, hbq, hgs, entV_set hx]
    have hsl : (L.set (pos k' L) (k', x)).length = L.length := List.length_set
    refine hQ _ ⟨by rw [hpe], .slice (some ⟨b, 0, sp⟩) L.length L.length, ⟨?_, ?_, ?_, ?_, ?_⟩, ?_, ?_⟩
    · simp (maxSteps := 4000000) only [not_false_eq_true, DS.upd_get_self, DS.upd_get_ne, Option.map_some, gq3, hqb]
    · simp (maxSteps := 4000000) only [DS.upd_wr, wq3]
    · rw [hpr]
      refine .inr ⟨b, sp, by rw [entV_len, hsl], hsp, ?_, ?_⟩
      · simp (maxSteps := 4000000) only [not_false_eq_true, DS.upd_get_self, DS.upd_get_ne, Option.map_some, hb, hbq]
      · simp (maxSteps := 4000000) only [DS.upd_wr, hwb]
    · simp [blk]; omega
    · rw [hpr]
      have := rise_put c.so k' x
      unfold putL at this
      rwa [if_pos hin] at this
    · exact (X13.trans (Ext.upd (F := [b]) (.inl (by simp))) (by simp; omega)).weaken (by simp) |>.trans' (Ext.upd (.inl (by simp)))
    · intro j hj
      simp [blk] at hj
      subst hj
      exact .inr hbn
  · have hin' : isAt k L = false := by simpa using hin
    rw [hin'] at hfind
    by_cases hfull : room ≤ (L.length : Int)
    · have hpe : putE k L room = 2 := by unfold putE; rw [if_neg hin, if_pos hfull]
      have hpr : putR k x L room = L := by unfold putR; rw [if_neg hin, if_pos hfull]
      have gq' := gq
      rw [hv, hel] at gq'
      simp (maxSteps := 4000000) only [WC_seq, WC_region, WC_cond, WC_skip, WC_ret, contS_normal, contS_ret, contR_ap, WO_nil, WO_pp, condC_true, condC_false, contO_ap, atS_ap, W_some, W_mv, W_bin, W_nilck, W_fadr, W_ext, W_blenL, W_ld, W_call, dpure, dbin, dint, Ends_ret, ev_tmp, ev_const, ev_func, putT_some, get_put_eq, get_put_ne, Nat.reduceEqDiff, not_false_eq_true, ofList_get, List.getElem?_cons_zero, List.getElem?_cons_succ, Option.getD_some, dresults, tupled, List.map_cons, List.map_nil, ldV_at, Cells.get, getN, Nat.zero_add, if_true, reduceCtorEq, pp, pv, Nat.add_zero, decide_true, d26, hfind, gq', hfull]
      exact hQ _ ⟨by rw [hpe], v, by rw [hpr]; exact c, .refl, fun j hj => .inl hj⟩
    · have hpe : putE k L room = 0 := by unfold putE; rw [if_neg hin, if_neg hfull]
      have hpr : putR k x L room = insAt L (pos k L) (k, x) := by unfold putR putL; rw [if_neg hin, if_neg hfull, if_neg hin]
      have gq' := gq
      rw [hv, hel] at gq'
      have hnq' : ∀ o, (s.new o).get q = some (.cells (.list [.slice av L.length L.length, .int .i64 room]) false) := fun o => (DS.new_get_lt hql).trans gq'
      have hnq2 : ∀ o o', ((s.new o).new o').get q = some (.cells (.list [.slice av L.length L.length, .int .i64 room]) false) := fun o o' => (DS.new_get_lt (show q < (s.new o).next from Nat.lt_succ_of_lt hql)).trans (hnq' o)
      have hq1 : Nat.ble s.next q = false := by rw [bleF]; omega
      have hq2 : Nat.ble (s.next + 1) q = false := by rw [bleF]; omega
      have hv' := hv
      rw [hel] at hv'
      obtain ⟨w1, e1, v1, _, b1⟩ := slV_ok c.sl (entV_ok L) (lo := none) (hi := some (.int .i64 (pos k L : Int))) (i := 0) (j := pos k L) rfl rfl (Nat.zero_le _) (by omega)
      obtain ⟨w2, e2, v2, _, b2⟩ := slV_ok c.sl (entV_ok L) (lo := some (.int .i64 (pos k L : Int))) (hi := none) (i := pos k L) (j := (entV L).length) rfl rfl (by omega) (Nat.le_refl _)
      have v1' : SlV s 2 w1 (entV (L.take (pos k L))) := by have := v1; rwa [List.drop_zero, show (entV L).take (pos k L) = entV (L.take (pos k L)) from List.map_take.symm] at this
      have v2' : SlV s 2 w2 (entV (L.drop (pos k L))) := by have := v2; rwa [List.take_length, show (entV L).drop (pos k L) = entV (L.drop (pos k L)) from List.map_drop.symm] at this
      rw [hv'] at e1 e2
      simp (maxSteps := 4000000) only [WC_seq, WC_region, WC_cond, WC_skip, contS_normal, contR_ap, WO_nil, WO_pp, WO_pn, WO_hn, condC_false, contO_ap, contN_ap, contHN_ap, atS_ap, atG_ap, atL_ap, W_some, W_mv, W_bin, W_nilck, W_build, W_fadr, W_ext, W_blenL, W_ld, W_call, dpure, dbin, dint, ev_tmp, ev_const, ev_func, putT_some, get_put_eq, get_put_ne, Nat.reduceEqDiff, not_false_eq_true, ofList_get, List.getElem?_cons_zero, List.getElem?_cons_succ, Option.getD_some, List.map_cons, List.map_nil, ldV_at, Cells.get, getN, Nat.zero_add, Nat.reduceAdd, cells_int, cells_agg, List.length_cons, List.length_nil, Bool.and_self, Bool.and_eq_true, Nat.beq_eq, Nat.ble_eq, Nat.reduceLeDiff, Nat.le_refl, and_self, if_true, reduceCtorEq, fillParts, List.take_zero, List.take_succ_cons, List.drop_succ_cons, List.drop_zero, List.nil_append, List.cons_append, List.drop_nil, List.append_nil, pp, pv, Option.map_some, nextN, nextM, W_slV, W_app, W_bslice, Option.map_none, repeatZ, Nat.reduceMul, atL_ap, unmask_mask, Nat.add_zero, Nat.zero_mul, decide_false, foot, mask_get, hidden, noteAt, Bool.or_false, Bool.false_and, d26, hfind, gq', hfull, hnq', hnq2, mask_get, hidden, noteAt, Bool.or_false, Bool.false_and, hq1, hq2, e1, e2]
      obtain ⟨S2, hS2⟩ : ∃ S2 : DS, S2 = (s.new (.cells (.list []) false)).new (.cells (.list [.int .i64 k, .int .i64 x]) false) := ⟨_, rfl⟩
      rw [← hS2]
      have X2 : Ext [] s S2 := by rw [hS2]; exact Ext.new.trans' Ext.new
      have hG2 := X2.good hG
      have n2 : S2.next = s.next + 2 := by rw [hS2]; rfl
      have ga : S2.get s.next = some (.cells (.list []) false) := by rw [hS2]; simp (maxSteps := 4000000) (maxDischargeDepth := 8) only [nextN, get_new_at, get_new_ne, good_new, Nat.lt_add_one, hG]
      have gb : S2.get (s.next + 1) = some (.cells (.list [.int .i64 k, .int .i64 x]) false) := by rw [hS2]; simp (maxSteps := 4000000) (maxDischargeDepth := 8) only [nextN, get_new_at, good_new, hG]
      have wa : S2.wr s.next = true := X2.wrs (hG _ (Nat.le_refl _)).2
      clear hS2
      have o1 : RowsOk 2 (entV (L.take (pos k L))) := entV_ok _
      have l1 : (entV (L.take (pos k L))).length ≤ 1000000 := by rw [entV_len, List.length_take]; omega
      have l2 : (entV (L.drop (pos k L))).length ≤ 1000000 := by rw [entV_len, List.length_drop]; omega
      refine W.mono (appM_ok (s := S2) (lx := []) (ly := entV (L.take (pos k L))) (.inr ⟨s.next, none, rfl, .inl rfl, ga, wa⟩) (v1'.of fun j hj => X2.get j (hvl j (b1 j hj)) (by simp)) RowsOk.nil o1 hG2 (by simp; omega) (by simp; omega) ?_ ?_ ?_) ?_
      · intro j hj
        simp [blk] at hj
        subst hj
        exact ⟨by (simp only [hidden, shielded, noteAt, memN, Bool.or_false, Bool.or_eq_false_iff, Bool.and_eq_false_iff, bleF, bltF, beqF, true_and, and_true, true_or, or_true] <;> omega), by (simp only [hidden, shielded, noteAt, memN, Bool.or_false, Bool.or_eq_false_iff, Bool.and_eq_false_iff, bleF, bltF, beqF, true_and, and_true, true_or, or_true] <;> omega)⟩
      · intro j hj
        have := hvl j (b1 j hj)
        (simp only [hidden, shielded, noteAt, memN, Bool.or_false, Bool.or_eq_false_iff, Bool.and_eq_false_iff, bleF, bltF, beqF, true_and, and_true, true_or, or_true] <;> omega)
      · intro j hj
        exact ⟨by (simp only [hidden, shielded, noteAt, memN, Bool.or_false, Bool.or_eq_false_iff, Bool.and_eq_false_iff, bleF, bltF, beqF, true_and, and_true, true_or, or_true] <;> omega), by (simp only [hidden, shielded, noteAt, memN, Bool.or_false, Bool.or_eq_false_iff, Bool.and_eq_false_iff, bleF, bltF, beqF, true_and, and_true, true_or, or_true] <;> omega)⟩
      rintro ⟨w3, s3⟩ ⟨x3, X3, b3, n3⟩
      simp only [List.nil_append] at x3 X3 b3 n3
      obtain ⟨S3, hS3⟩ : ∃ S3 : DS, S3 = unmask S2 s3 := ⟨_, rfl⟩
      rw [← hS3] at x3 X3 n3
      have hG3 := X3.good hG2
      have X3' : Ext [] s S3 := X2.trans X3 (by simp [blk])
      have hb3 : ∀ j, j ∈ blk w3 → s.next ≤ j := fun j hj => by
        rcases b3 j hj with h | h
        · simp [blk] at h; omega
        · omega
      have gb3 := X3.keep gb (by simp [blk])
      have gq3 := X3'.keep gq' (by simp)
      simp (maxSteps := 4000000) only [WO_hn, contHN_ap, ev_tmp, putT_some, get_put_eq, get_put_ne, Nat.reduceEqDiff, not_false_eq_true, Option.getD_some, List.nil_append, List.cons_append, W_app, foot, ← hS3, n3]
      refine W.mono (appM_ok (s := S3) (ly := entV [(k, x)]) x3 (.inr ⟨s.next + 1, 0, none, 1, rfl, by unfold DS.read; rw [gb3]; rfl⟩) o1 (entV_ok _) hG3 (by simp [entV]; omega) (by simp [entV]; omega) ?_ ?_ ?_) ?_
      · intro j hj
        have := hb3 j hj
        exact ⟨by (simp only [hidden, shielded, noteAt, memN, Bool.or_false, Bool.or_eq_false_iff, Bool.and_eq_false_iff, bleF, bltF, beqF, true_and, and_true, true_or, or_true] <;> omega), by (simp only [hidden, shielded, noteAt, memN, Bool.or_false, Bool.or_eq_false_iff, Bool.and_eq_false_iff, bleF, bltF, beqF, true_and, and_true, true_or, or_true] <;> omega)⟩
      · intro j hj
        (simp only [hidden, shielded, noteAt, memN, Bool.or_false, Bool.or_eq_false_iff, Bool.and_eq_false_iff, bleF, bltF, beqF, true_and, and_true, true_or, or_true] <;> omega)
      · intro j hj
        have := X3'.le
        exact ⟨by (simp only [hidden, shielded, noteAt, memN, Bool.or_false, Bool.or_eq_false_iff, Bool.and_eq_false_iff, bleF, bltF, beqF, true_and, and_true, true_or, or_true] <;> omega), by (simp only [hidden, shielded, noteAt, memN, Bool.or_false, Bool.or_eq_false_iff, Bool.and_eq_false_iff, bleF, bltF, beqF, true_and, and_true, true_or, or_true] <;> omega)⟩
      rintro ⟨w4, s4⟩ ⟨x4, X4, b4, n4⟩
      simp only at x4 X4 b4 n4
      obtain ⟨S4, hS4⟩ : ∃ S4 : DS, S4 = unmask S3 s4 := ⟨_, rfl⟩
      rw [← hS4] at x4 X4 n4
      have hG4 := X4.good hG3
      have X4' : Ext [] s S4 := X3'.trans X4 (fun j hj => .inr (hb3 j hj))
      have hb4 : ∀ j, j ∈ blk w4 → s.next ≤ j := fun j hj => by
        rcases b4 j hj with h | h
        · exact hb3 j h
        · have := X3'.le; omega
      simp (maxSteps := 4000000) only [WO_pn, contHN_ap, ev_tmp, putT_some, get_put_eq, get_put_ne, Nat.reduceEqDiff, not_false_eq_true, Option.getD_some, List.nil_append, List.cons_append, W_app, foot, ← hS4, n4]
      refine W.mono (appV_ok x4 (v2'.of fun j hj => X4'.get j (hvl j (b2 j hj)) (by simp)) (o1.append (entV_ok _)) (entV_ok _) hG4 (by simp [entV]; omega) (by simp [entV]; omega)) ?_
      rintro ⟨w5, s5⟩ ⟨x5, X5, b5⟩
      simp only at x5 X5 b5
      have X5' : Ext [] s s5 := X4'.trans X5 (fun j hj => .inr (hb4 j hj))
      have hb5 : ∀ j, j ∈ blk w5 → s.next ≤ j := fun j hj => by
        rcases b5 j hj with h | h
        · exact hb4 j h
        · have := X4'.le; omega
      have gq5 := X5'.keep gq' (by simp)
      have wq5 := X5'.wrs wq
      obtain ⟨a5, hw5⟩ := x5.shape
      subst hw5
      have hcat : entV (L.take (pos k L)) ++ entV [(k, x)] ++ entV (L.drop (pos k L)) = entV (insAt L (pos k L) (k, x)) := by
        unfold insAt entV
        rw [List.map_append, List.append_assoc]; rfl
      rw [hcat] at x5 hb5 ⊢
      simp (maxSteps := 4000000) only [WC_seq, WC_region, WC_ret, contS_normal, contR_ap, WO_nil, WO_pp, WO_pn, contO_ap, contN_ap, atS_ap, atD_ap, W_some, W_mv, W_nilck, W_fadr, W_st, dpure, Ends_ret, ev_tmp, ev_const, putT_some, putT_none, get_put_eq, get_put_ne, Nat.reduceEqDiff, not_false_eq_true, Option.getD_some, dresults, tupled, Nat.zero_add, Nat.reduceAdd, st_wr, cells_slice, List.length_cons, List.length_nil, allOne, oneCellD, Bool.and_self, Bool.and_true, Nat.beq_eq, Nat.ble_eq, Nat.reduceLeDiff, if_true, DS.wrC, Cells.size, Cells.fillFrom, Cells.set, setN, List.nil_append, List.cons_append, DS.upd_next, Nat.add_zero, foot, gq5, wq5]
      refine hQ _ ⟨by rw [hpe], .slice a5 (entV (insAt L (pos k L) (k, x))).length (entV (insAt L (pos k L) (k, x))).length, ⟨?_, ?_, ?_, ?_, ?_⟩, ?_, ?_⟩
      · simp (maxSteps := 4000000) only [DS.upd_get_self, Option.map_some, gq5]
      · simp (maxSteps := 4000000) only [DS.upd_wr, wq5]
      · rw [hpr]
        exact x5.keep (Ext.upd (F := [q]) (.inl (by simp))) fun j hj => by have := hb5 j hj; simp; omega
      · intro hq
        have := hb5 q hq
        omega
      · rw [hpr]
        have := rise_put c.so k x
        unfold putL at this
        rwa [if_neg hin] at this
      · exact (X5'.weaken (by simp)).trans' (Ext.upd (.inl (by simp)))
      · exact fun j hj => .inr (hb5 j hj)
theorem rnew_ok (hroom : 0 ≤ room ∧ room ≤ 4096) (hG : s.Good) : W (dcall E (d + 1) (.func (.func 25) #[] #[]) [.int .i64 room] s) fun r => r.1 = .tuple ⟨[.pointer (some ⟨s.next, 0, none⟩), .int .i64 0]⟩ ∧ RefS r.2 s.next (.slice none 0 0) [] room ∧ Ext [] s r.2 := by
  refine W_cps fun Q hQ => ?_
  rw [W_enter0 hR.iNew hR.fNew rfl]
  have e1 : ¬ room < 0 := by omega
  have e2 : ¬ 4096 < room := by omega
  simp (maxSteps := 4000000) (maxDischargeDepth := 8) only [WC_seq, WC_region, WC_cond, WC_skip, WC_ret, contS_normal, contR_ap, WO_nil, WO_pp, WO_g, gateO_ff, condC_false, contO_ap, atS_ap, atG_ap, W_some, W_mv, W_pick, W_bin, W_build, W_box, dpure, dbin, dint, Ends_ret, ev_tmp, ev_const, putT_some, get_put_eq, get_put_ne, not_false_eq_true, ofList_get, List.getElem?_cons_zero, Option.getD_some, dresults, tupled, Nat.zero_add, Nat.reduceAdd, cells_int, cells_agg, List.length_cons, List.length_nil, Bool.and_self, Bool.and_eq_true, Nat.beq_eq, Nat.ble_eq, Nat.le_refl, and_self, if_true, if_false, Bool.false_eq_true, fillParts, List.take_zero, List.take_succ_cons, List.drop_succ_cons, List.nil_append, List.cons_append, List.drop_nil, List.append_nil, pp, pv, pw, pg, decide_false, eq_lt, Nat.reduceLT, Nat.lt_add_one, Nat.succ_pos, d25, e1, e2, hG]
  exact hQ _ ⟨rfl, ⟨DS.new_get_self hG, (hG _ (Nat.le_refl _)).2, .nil, by simp [blk], .nil⟩, Ext.new⟩
end
end Go.Dx.StA
/- A store is read from its code, the document's way (made by tools/gen.py out of upref.t). -/
set_option linter.unusedVariables false
set_option linter.unusedSimpArgs false
set_option linter.unusedSectionVars false
set_option maxRecDepth 100000
set_option maxHeartbeats 4000000
namespace Go.Dx.StA
open Go Go.Dx Go.Dx.Search Go.Dx.St Go.Proofs.Ytnmajohhfcgddaa

structure RInFns (E : Env) : Prop where
  fTake : E.fn 83 = some d83
  iTake : E.intr 83 = none
  fLow : E.fn 62 = some d62
  iLow : E.intr 62 = none
  fCount : E.fn 61 = some d61
  iCount : E.intr 61 = none
  fShort : E.fn 39 = some d39
  iShort : E.intr 39 = none
  fMany : E.fn 40 = some d40
  iMany : E.intr 40 = none
  fInt : E.fn 41 = some d41
  iInt : E.intr 41 = none
  fUp : E.fn 16 = some d16
  iUp : E.intr 16 = none
  lf : 10000 ≤ E.lf
section
variable {E : Env} (hR : RInFns E) {s : DS} {r : Nat} {bv : Value} {bs : List Int} {bad : Bool} {d : Nat}
include hR
theorem rtake_ok (h : InAt s r bv bs bad) (hG : s.Good) (hl : bs.length ≤ 1048576) (n : Nat) (hn : n ≤ 65536) :
    W (dcall E (d + 1) (.func (.func 83) #[] #[]) [.pointer (some ⟨r, 0, none⟩), .int .i64 (n : Int)] s) fun p => ∃ bv', SlX p.2 1 p.1 (bytesV (tk n (bs, bad)).1) ∧ InAt p.2 r bv' (tk n (bs, bad)).2.1 (tk n (bs, bad)).2.2 ∧ Ext [r] s p.2 ∧ ∀ k, k ∈ blk bv' → k ∈ blk bv := by
  have gr := h.gr
  have wr := h.wr
  have hrl := DS.get_lt' gr
  obtain ⟨ba, bc, hbv⟩ := h.sl.len
  refine W_cps fun Q hQ => ?_
  rw [W_enter0 hR.iTake hR.fTake rfl]
  have e1 : ¬ (n : Int) < 0 := by omega
  have X : ∀ o, Ext [r] s (s.upd r o) := fun o => Ext.upd (.inl (by simp))
  have fail : tk n (bs, bad) = ([], (bs, true)) → Q (.slice none 0 0, s.upd r (.cells (.list [bv, .bool true]) false)) := by
    intro ht
    rw [ht] at hQ
    refine hQ _ ⟨bv, .inl ⟨rfl, rfl⟩, ⟨by rw [DS.upd_get_self, gr]; rfl, by rw [DS.upd_wr]; exact wr, h.sl.keep (X _) (fun k hk e => ?_), h.ne⟩, X _, fun k hk => hk⟩
    have e := List.mem_singleton.1 e
    subst e
    exact h.ne hk
  cases bad with
  | true =>
    have := fail (by unfold tk; rw [if_pos (.inl rfl)])
    simp (maxSteps := 4000000) only [WC_seq, WC_region, WC_cond, WC_ret, contS_normal, contS_ret, contR_ap, WO_nil, WO_pp, WO_g, gateO_tf, condC_true, contO_ap, atS_ap, atD_ap, W_some, W_mv, W_pick, W_nilck, W_fadr, W_ld, W_st, dpure, Ends_ret, ev_tmp, ev_const, putT_some, putT_none, get_put_eq, get_put_ne, Nat.reduceEqDiff, not_false_eq_true, ofList_get, List.getElem?_cons_zero, Option.getD_some, dresults, tupled, ldV_at, Cells.get, getN, Nat.zero_add, Nat.reduceAdd, st_wr, cells_bool, List.length_cons, List.length_nil, allOne, oneCellD, Bool.and_self, Bool.and_true, Nat.beq_eq, Nat.ble_eq, Nat.le_refl, if_true, if_false, reduceCtorEq, Bool.false_eq_true, DS.wrC, Cells.size, Cells.fillFrom, Cells.set, setN, List.nil_append, pp, pv, pw, pg, d83, gr, wr]
    exact this
  | false =>
    by_cases c1 : bs.length < n
    · have := fail (by unfold tk; rw [if_pos (.inr c1)])
      have e2 : (bs.length : Int) < (n : Int) := by omega
      subst hbv
      simp (maxSteps := 4000000) only [WC_seq, WC_region, WC_cond, WC_ret, contS_normal, contS_ret, contR_ap, WO_nil, WO_pp, WO_g, gateO_ff, condC_true, contO_ap, atS_ap, atD_ap, W_some, W_mv, W_pick, W_bin, W_nilck, W_fadr, W_blenL, W_ld, W_st, dpure, dbin, dint, Ends_ret, ev_tmp, ev_const, putT_some, putT_none, get_put_eq, get_put_ne, Nat.reduceEqDiff, not_false_eq_true, ofList_get, List.getElem?_cons_zero, List.getElem?_cons_succ, Option.getD_some, dresults, tupled, ldV_at, Cells.get, getN, Nat.zero_add, Nat.reduceAdd, st_wr, cells_bool, List.length_cons, List.length_nil, allOne, oneCellD, Bool.and_self, Bool.and_true, Nat.beq_eq, Nat.ble_eq, Nat.le_refl, if_true, if_false, reduceCtorEq, Bool.false_eq_true, DS.wrC, Cells.size, Cells.fillFrom, Cells.set, setN, pp, pv, pw, pg, Nat.add_zero, decide_true, decide_false, d83, gr, wr, e1, e2]
      exact this
    · have ht : tk n (bs, false) = (bs.take n, (bs.drop n, false)) := by unfold tk; rw [if_neg (by simp; omega)]
      rw [ht] at hQ
      have e2 : ¬ (bs.length : Int) < (n : Int) := by omega
      obtain ⟨w1, hw1, r1, b1⟩ := h.sl.take (i := n) (by omega)
      obtain ⟨w2, hw2, r2, b2⟩ := h.sl.drop (i := n) (by omega)
      have hd : ∀ k, k ∈ blk bv → k ∉ [r] := fun k hk e => h.ne (List.mem_singleton.1 e ▸ hk)
      have hlt := h.sl.lt
      obtain ⟨a2, c2, h2⟩ := r2.len
      subst h2
      have hbv' := hbv
      subst hbv
      simp (maxSteps := 4000000) (maxDischargeDepth := 8) only [WC_seq, WC_region, WC_cond, WC_skip, contS_normal, contR_ap, WO_nil, WO_pp, WO_g, gateO_ff, condC_false, contO_ap, atS_ap, atL_ap, W_some, W_mv, W_pick, W_bin, W_nilck, W_fadr, W_blenL, W_ld, dpure, dbin, dint, ev_tmp, ev_const, putT_some, get_put_eq, get_put_ne, not_false_eq_true, ofList_get, List.getElem?_cons_zero, List.getElem?_cons_succ, Option.getD_some, ldV_at, Cells.get, getN, Nat.zero_add, Nat.ble_eq, Nat.reduceLeDiff, if_true, if_false, Bool.false_eq_true, fillParts, pp, pv, pw, pg, Option.map_some, W_slV, W_app, W_bslice, Option.map_none, repeatZ, atL_ap, Nat.add_zero, Nat.mul_one, decide_false, get_new_ne, eq_lt, Nat.reduceLT, Nat.lt_add_one, Nat.succ_pos, d83, gr, wr, e1, e2, hw1, hw2, hG, hrl]
      obtain ⟨S1, hS1⟩ : ∃ S1 : DS, S1 = s.new (.cells (.list []) false) := ⟨_, rfl⟩
      rw [← hS1]
      have X1 : ∀ F, Ext F s S1 := fun F => by rw [hS1]; exact Ext.new
      have g1 : S1.get s.next = some (.cells (.list []) false) := by rw [hS1]; exact DS.new_get_self hG
      have v1 := (r1.keep (X1 []) (by simp)).view
      rw [← bytesV_rows] at v1
      have hx : SlX S1 1 (.slice (some ⟨s.next, 0, none⟩) 0 0) [] := .inr ⟨s.next, none, rfl, .inl rfl, g1, (X1 []).wrs (hG _ (Nat.le_refl _)).2⟩
      refine W.mono (appV_ok hx v1 ⟨(fun y hy => nomatch hy), (fun y hy => nomatch hy)⟩ (bytesV_ok _) ((X1 []).good hG) (by rw [bytesV_len, List.length_take]; simp; omega) (by rw [bytesV_len, List.length_take]; simp; omega)) ?_
      rintro ⟨v5, S5⟩ ⟨h5, X5, b5⟩
      simp only [List.nil_append] at h5 X5 b5
      have XS : Ext [] s S5 := (X1 []).trans X5 (by simp [blk])
      have gr5 := XS.keep gr (by simp)
      have wr5 := XS.wrs wr
      have G5 := XS.good hG
      have n5 := XS.le
      have le1 := (X1 []).le
      have n1 : S1.next = s.next + 1 := by rw [hS1]; rfl
      have h5b : ∀ k, k ∈ blk v5 → s.next ≤ k := fun k hk => by
        rcases b5 k hk with h | h
        · simp [blk] at h; omega
        · omega
      have U : ∀ o, Ext [r] S5 (S5.upd r o) := fun o => Ext.upd (.inl (by simp))
      simp (maxSteps := 4000000) (maxDischargeDepth := 8) only [WC_seq, WC_region, WC_ret, contS_normal, contR_ap, WO_nil, WO_pp, contO_ap, atS_ap, atD_ap, W_some, W_mv, W_nilck, W_fadr, W_ld, W_st, dpure, Ends_ret, ev_tmp, putT_some, putT_none, get_put_eq, get_put_ne, not_false_eq_true, ofList_get, List.getElem?_cons_zero, List.getElem?_cons_succ, Option.getD_some, dresults, tupled, ldV_at, Cells.get, getN, Nat.zero_add, Nat.reduceAdd, st_wr, cells_slice, List.length_cons, List.length_nil, allOne, oneCellD, Bool.and_self, Bool.and_true, Nat.beq_eq, Nat.ble_eq, Nat.reduceLeDiff, if_true, DS.wrC, Cells.size, Cells.fillFrom, Cells.set, setN, Option.map_some, W_slV, Option.map_none, Nat.add_zero, eq_lt, Nat.reduceLT, Nat.lt_add_one, Nat.succ_pos, gr5, wr5, G5, hw2, show r < S5.next by omega]
      exact hQ _ ⟨_, h5.keep (U _) (fun k hk => by have := h5b k hk; simp; omega), ⟨by rw [DS.upd_get_self, gr5]; rfl, by rw [DS.upd_wr]; exact wr5, (r2.keep XS (by simp)).keep (U _) fun k hk => hd k (b2 k hk), fun hk => h.ne (b2 _ hk)⟩, (XS.weaken (by simp)).trans' (U _), b2⟩
/-- counts down -/
structure RLowI (s1 : DS) (w : Value) (l : List Int) (n : Nat) (y : St) : Prop where
  ex : n ≤ l.length ∧ y.s = s1 ∧ y.defers = [] ∧ (y.t.get 5 = some w ∧ y.t.get 6 = some (.int .u64 (leV (l.drop n))) ∧ y.t.get 7 = some (.int .i64 ((n : Int) - 1)))
theorem rlow_ok (h : InAt s r bv bs bad) (hG : s.Good) (hB : IsB bs) (hl : bs.length ≤ 1048576) (n : Nat) (hn : n ≤ 8) :
    W (dcall E (d + 2) (.func (.func 62) #[] #[]) [.pointer (some ⟨r, 0, none⟩), .int .i64 (n : Int)] s) fun p => p.1 = .int .u64 (leV (tk n (bs, bad)).1) ∧ ∃ bv', InAt p.2 r bv' (tk n (bs, bad)).2.1 (tk n (bs, bad)).2.2 ∧ Ext [r] s p.2 ∧ ∀ k, k ∈ blk bv' → k ∈ blk bv := by
  have hlf := hR.lf
  refine W_cps fun Q hQ => ?_
  rw [W_enter0 hR.iLow hR.fLow rfl]
  simp (maxSteps := 4000000) only [WC_seq, WC_region, contS_normal, contR_ap, WO_nil, WO_pp, contO_ap, W_mv, W_call, ev_tmp, ev_const, ev_func, putT_some, get_put_eq, get_put_ne, Nat.reduceEqDiff, not_false_eq_true, ofList_get, List.getElem?_cons_zero, List.getElem?_cons_succ, Option.getD_some, List.map_cons, List.map_nil, reduceCtorEq, pp, pv, d62]
  refine W.mono (rtake_ok hR h hG hl n (by omega)) ?_
  rintro ⟨w, s1⟩ ⟨bv', hw, hin, X1, hb1⟩
  simp only at hw hin X1 hb1
  obtain ⟨ll, hll⟩ : ∃ ll, ll = (tk n (bs, bad)).1 := ⟨_, rfl⟩
  have hlB : IsB ll := by
    rw [hll]
    unfold tk
    split
    · exact fun b hb => nomatch hb
    · exact hB.take n
  have hls : ll.length ≤ n := by
    rw [hll]
    unfold tk
    split
    · exact Nat.zero_le _
    · rw [List.length_take]; exact Nat.min_le_left ..
  rw [← hll] at hw hQ
  obtain ⟨wa, hwv⟩ := hw.shape
  rw [bytesV_len] at hwv
  have w0 : dwrap .i64 ((ll.length : Int) - 1) = (ll.length : Int) - 1 := dwrap_in (by omega) (by omega)
  subst hwv
  simp (maxSteps := 4000000) only [WC_seq, WC_region, WC_block, contS_normal, contR_ap, WO_nil, WO_pp, contO_ap, atS_ap, W_some, W_mv, W_bin, W_blenL, dpure, dbin, dint, ev_tmp, ev_const, putT_some, get_put_eq, get_put_ne, Nat.reduceEqDiff, not_false_eq_true, Option.getD_some, if_true, w0]
  refine WC_loop (RLowI s1 (.slice wa ll.length ll.length) ll) ll.length (by omega) ⟨Nat.le_refl _, rfl, rfl, by simp (maxSteps := 4000000) only [get_put_eq, get_put_ne, Nat.reduceEqDiff, not_false_eq_true, Bool.and_true, Bool.true_and, and_true, true_and, List.drop_length]; rfl⟩ ?_
  rintro j ⟨t, s2, ds⟩ hn ⟨hj, hs2, hds, ⟨g5, g6, g7⟩⟩
  simp only at hs2 hds g5 g6 g7
  subst hs2 hds
  cases j with
  | zero =>
    have e1 : ¬ (0 : Int) ≤ ((0 : Nat) : Int) - 1 := by omega
    simp (maxSteps := 4000000) only [WC_seq, WC_region, WC_cond, WC_ret, WC_exit, contS_normal, contS_exit, contB_exit, contR_ap, contL_exit, WO_nil, WO_pp, condC_false, contO_ap, atS_ap, W_some, W_mv, W_bin, dbin, dint, Ends_ret, ev_tmp, ev_const, putT_some, get_put_eq, get_put_ne, Nat.reduceEqDiff, not_false_eq_true, Option.getD_some, dresults, tupled, if_true, List.drop_zero, decide_false, g5, g6, g7, e1]
    exact hQ _ ⟨rfl, bv', hin, X1, hb1⟩
  | succ j =>
    have e1 : (0 : Int) ≤ ((j + 1 : Nat) : Int) - 1 := by omega
    have c1 : j < ll.length := by omega
    have hx : ll[j]? = some ll[j] := List.getElem?_eq_getElem c1
    have hdr : ll.drop j = ll[j] :: ll.drop (j + 1) := List.drop_eq_getElem_cons c1
    generalize ll[j] = x at hx hdr
    have hxr := hlB x (List.mem_of_getElem? hx)
    have hr := leV_range (hlB.drop (j + 1))
    have hr2 := leV_range (hlB.drop j)
    have h8 := pow_le8 (j := (ll.drop j).length) (by rw [List.length_drop]; omega)
    have hle : leV (ll.drop j) = x + 256 * leV (ll.drop (j + 1)) := by rw [hdr]; rfl
    have w1 : dwrap .u64 (leV (ll.drop (j + 1)) * 256) = 256 * leV (ll.drop (j + 1)) := by rw [Int.mul_comm]; exact dwrap_u64 (by omega) (by omega)
    have w2 : dwrap .u64 x = x := dwrap_u64 hxr.1 (by omega)
    have w3 : dwrap .u64 (256 * leV (ll.drop (j + 1)) + x) = leV (ll.drop j) := by rw [hle, Int.add_comm]; exact dwrap_u64 (by omega) (by omega)
    have w4 : ((j + 1 : Nat) : Int) - 1 = (j : Int) := by omega
    have w5 : dwrap .i64 ((j : Int) - 1) = (j : Int) - 1 := dwrap_in (by omega) (by omega)
    have e0 : (0 : Int) ≤ (j : Int) := by omega
    obtain ⟨b, sp, hv', _, hb, _⟩ := hw.at (fun e => by have := bytesV_len ll; rw [e] at this; simp at this; omega)
    rw [bytesV_len] at hv'
    injection hv' with hv1 hv2 hv3
    subst hv1
    have hg : getN (bytesV ll).flatten j = some (.int .u8 x) := by
      have hmx : (bytesV ll)[j]? = some [.int .u8 x] := by unfold bytesV; rw [List.getElem?_map, hx]; rfl
      have := flatten_get (n := 1) (j := 0) (fun y hy => (by obtain ⟨z, _, rfl⟩ := List.mem_map.1 hy; rfl : y.length = 1)) hmx rfl
      rwa [Nat.mul_one, Nat.add_zero] at this
    rw [w4] at g7
    simp (maxSteps := 4000000) only [WC_seq, WC_region, WC_cond, WC_block, WC_skip, contS_normal, contB_normal, contR_ap, contL_normal, WO_nil, WO_pp, condC_true, contO_ap, atS_ap, W_some, W_mv, W_bin, W_cvInt, W_ixL, W_ld, dpure, dbin, dint, ev_tmp, ev_const, putT_some, get_put_eq, get_put_ne, Nat.reduceEqDiff, not_false_eq_true, Option.getD_some, ldV_at, Cells.get, Nat.zero_add, Nat.blt_eq, if_true, asIdx_cast, Nat.mul_one, decide_true, g5, g6, g7, e0, c1, hb, hg, w1, w2, w3, w5]
    exact ⟨j, by omega, ⟨by omega, rfl, rfl, by simp (maxSteps := 4000000) only [get_put_eq, get_put_ne, Nat.reduceEqDiff, not_false_eq_true, Bool.and_self, and_self, g5]⟩⟩
theorem rcount_ok (h : InAt s r bv bs bad) (hG : s.Good) (hB : IsB bs) (hl : bs.length ≤ 1048576) {n : Nat} (hn : n < 8) {most : Int} (hm : 0 ≤ most) :
    W (dcall E (d + 3) (.func (.func 61) #[] #[]) [.pointer (some ⟨r, 0, none⟩), .int .i64 (n : Int), .int .i64 most] s) (GetQ s r bv repI' (rdN n most (bs, bad))) := by
  refine W_cps fun Q hQ => ?_
  rw [W_enter0 hR.iCount hR.fCount rfl]
  simp (maxSteps := 4000000) only [WC_seq, WC_region, contS_normal, contR_ap, WO_nil, WO_pp, contO_ap, W_mv, W_call, ev_tmp, ev_const, ev_func, putT_some, get_put_eq, get_put_ne, Nat.reduceEqDiff, not_false_eq_true, ofList_get, List.getElem?_cons_zero, List.getElem?_cons_succ, Option.getD_some, List.map_cons, List.map_nil, reduceCtorEq, pp, pv, d61]
  refine W.mono (rlow_ok hR h hG hB hl n (by omega)) ?_
  rintro ⟨w, s1⟩ ⟨hw, bv', hin, X1, hb1⟩
  simp only at hw hin X1 hb1
  subst hw
  obtain ⟨ll, hll⟩ : ∃ ll, ll = (tk n (bs, bad)).1 := ⟨_, rfl⟩
  have hlB : IsB ll := by
    rw [hll]
    unfold tk
    split
    · exact fun b hb => nomatch hb
    · exact hB.take n
  have hls : ll.length ≤ n := by
    rw [hll]
    unfold tk
    split
    · exact Nat.zero_le _
    · rw [List.length_take]; exact Nat.min_le_left ..
  rw [← hll]
  have hrv := leV_range hlB
  have h7 := pow_le7 (j := ll.length) (by omega)
  have hi : dwrap .i64 (leV ll) = leV ll := dwrap_in (by omega) (by omega)
  have gr := hin.gr
  have wr := hin.wr
  have hrl := DS.get_lt' gr
  have GS := X1.good hG
  by_cases cA : most < leV ll
  · have hrd : rdN n most (bs, bad) = (0, ((tk n (bs, bad)).2.1, true)) := by
      unfold rdN
      rw [← hll, if_pos (show n < 8 ∧ most < leV ll from ⟨hn, cA⟩)]
      split
      · rename_i hb
        exact Prod.ext rfl (Prod.ext rfl hb)
      · rfl
    rw [hrd] at hQ
    have fin : Q (.int .i64 0, s1.upd r (.cells (.list [bv', .bool true]) false)) :=
      hQ _ ⟨bv', rfl, ⟨by rw [DS.upd_get_self, gr]; rfl, by rw [DS.upd_wr]; exact wr, hin.sl.keep (Ext.upd (F := [r]) (.inl (by simp))) (fun k hk e => hin.ne (List.mem_singleton.1 e ▸ hk)), hin.ne⟩, X1.trans' (Ext.upd (.inl (by simp))), hb1⟩
    simp (maxSteps := 4000000) (maxDischargeDepth := 8) only [WC_seq, WC_region, WC_cond, WC_ret, contS_normal, contS_ret, contR_ap, WO_nil, WO_pp, condC_true, contO_ap, atS_ap, atD_ap, W_some, W_mv, W_bin, W_cvInt, W_nilck, W_fadr, W_ld, W_st, dpure, dbin, dint, Ends_ret, ev_tmp, ev_const, putT_some, putT_none, get_put_eq, get_put_ne, not_false_eq_true, ofList_get, List.getElem?_cons_zero, List.getElem?_cons_succ, Option.getD_some, dresults, tupled, ldV_at, Cells.get, getN, Nat.zero_add, Nat.reduceAdd, st_wr, cells_bool, List.length_cons, List.length_nil, allOne, oneCellD, Bool.and_self, Bool.and_true, Nat.beq_eq, Nat.ble_eq, Nat.le_refl, if_true, DS.wrC, Cells.size, Cells.fillFrom, Cells.set, setN, DS.upd_get_self, Option.map_some, decide_true, eq_lt, Nat.reduceLT, Nat.lt_add_one, Nat.succ_pos, hi, cA, gr, wr, GS, hrl]
    exact fin
  · cases hbad : (tk n (bs, bad)).2.2 with
    | true =>
      have hrd : rdN n most (bs, bad) = (0, (tk n (bs, bad)).2) := by unfold rdN; rw [if_pos hbad]
      rw [hbad] at gr
      rw [hrd] at hQ
      have fin : Q (.int .i64 0, s1) := hQ _ ⟨bv', rfl, hin, X1, hb1⟩
      simp (maxSteps := 4000000) (maxDischargeDepth := 8) only [WC_seq, WC_region, WC_cond, WC_skip, WC_ret, contS_normal, contS_ret, contR_ap, WO_nil, WO_pp, condC_true, condC_false, contO_ap, atS_ap, W_some, W_mv, W_bin, W_cvInt, W_nilck, W_fadr, W_ld, dpure, dbin, dint, Ends_ret, ev_tmp, ev_const, putT_some, get_put_eq, get_put_ne, not_false_eq_true, ofList_get, List.getElem?_cons_zero, List.getElem?_cons_succ, Option.getD_some, dresults, tupled, ldV_at, Cells.get, getN, Nat.zero_add, if_true, decide_false, eq_lt, Nat.reduceLT, Nat.lt_add_one, Nat.succ_pos, hi, cA, gr, wr, GS, hrl]
      exact fin
    | false =>
      have hrd : rdN n most (bs, bad) = (dwrap .i64 (leV ll), (tk n (bs, bad)).2) := by
        unfold rdN
        rw [if_neg (by rw [hbad]; simp), ← hll, if_neg fun h => cA h.2]
      rw [hbad] at gr
      rw [hrd, hi] at hQ
      have fin : Q (.int .i64 (leV ll), s1) := hQ _ ⟨bv', rfl, hin, X1, hb1⟩
      simp (maxSteps := 4000000) (maxDischargeDepth := 8) only [WC_seq, WC_region, WC_cond, WC_skip, WC_ret, contS_normal, contR_ap, WO_nil, WO_pp, condC_false, contO_ap, atS_ap, W_some, W_mv, W_bin, W_cvInt, W_nilck, W_fadr, W_ld, dpure, dbin, dint, Ends_ret, ev_tmp, putT_some, get_put_eq, get_put_ne, not_false_eq_true, ofList_get, List.getElem?_cons_zero, List.getElem?_cons_succ, Option.getD_some, dresults, tupled, ldV_at, Cells.get, getN, Nat.zero_add, if_true, decide_false, eq_lt, Nat.reduceLT, Nat.lt_add_one, Nat.succ_pos, hi, cA, gr, wr, GS, hrl]
      exact fin
theorem rshort_ok (h : InAt s r bv bs bad) (hG : s.Good) (hB : IsB bs) (hl : bs.length ≤ 1048576) :
    W (dcall E (d + 4) (.func (.func 39) #[] #[]) [.pointer (some ⟨r, 0, none⟩)] s) (GetQ s r bv repI' (rdN 2 65535 (bs, bad))) := by
  refine W_cps fun Q hQ => ?_
  rw [W_enter0 hR.iShort hR.fShort rfl]
  simp (maxSteps := 4000000) only [WC_seq, WC_region, contS_normal, contR_ap, WO_nil, WO_pp, contO_ap, W_mv, W_call, ev_tmp, ev_const, ev_func, putT_some, get_put_eq, get_put_ne, not_false_eq_true, ofList_get, List.getElem?_cons_zero, Option.getD_some, List.map_cons, List.map_nil, reduceCtorEq, pp, pv, d39]
  refine W.mono (rcount_ok hR h hG hB hl (n := 2) (by omega) (by omega)) ?_
  rintro ⟨w, s1⟩ h1
  simp (maxSteps := 4000000) only [WC_ret, contS_normal, contR_ap, WO_nil, WO_pp, contO_ap, W_some, W_mv, Ends_ret, ev_tmp, putT_some, get_put_eq, Option.getD_some, dresults, tupled]
  exact hQ _ h1
theorem rmany_ok (h : InAt s r bv bs bad) (hG : s.Good) (hB : IsB bs) (hl : bs.length ≤ 1048576) :
    W (dcall E (d + 4) (.func (.func 40) #[] #[]) [.pointer (some ⟨r, 0, none⟩)] s) (GetQ s r bv repI' (rdN 2 4096 (bs, bad))) := by
  refine W_cps fun Q hQ => ?_
  rw [W_enter0 hR.iMany hR.fMany rfl]
  simp (maxSteps := 4000000) only [WC_seq, WC_region, contS_normal, contR_ap, WO_nil, WO_pp, contO_ap, W_mv, W_call, ev_tmp, ev_const, ev_func, putT_some, get_put_eq, get_put_ne, not_false_eq_true, ofList_get, List.getElem?_cons_zero, Option.getD_some, List.map_cons, List.map_nil, reduceCtorEq, pp, pv, d40]
  refine W.mono (rcount_ok hR h hG hB hl (n := 2) (by omega) (by omega)) ?_
  rintro ⟨w, s1⟩ h1
  simp (maxSteps := 4000000) only [WC_ret, contS_normal, contR_ap, WO_nil, WO_pp, contO_ap, W_some, W_mv, Ends_ret, ev_tmp, putT_some, get_put_eq, Option.getD_some, dresults, tupled]
  exact hQ _ h1
theorem rint_ok (h : InAt s r bv bs bad) (hG : s.Good) (hB : IsB bs) (hl : bs.length ≤ 1048576) :
    W (dcall E (d + 3) (.func (.func 41) #[] #[]) [.pointer (some ⟨r, 0, none⟩)] s) (GetQ s r bv repI' (rdN 8 0 (bs, bad))) := by
  refine W_cps fun Q hQ => ?_
  rw [W_enter0 hR.iInt hR.fInt rfl]
  simp (maxSteps := 4000000) only [WC_seq, WC_region, contS_normal, contR_ap, WO_nil, WO_pp, contO_ap, W_mv, W_call, ev_tmp, ev_const, ev_func, putT_some, get_put_eq, get_put_ne, not_false_eq_true, ofList_get, List.getElem?_cons_zero, Option.getD_some, List.map_cons, List.map_nil, reduceCtorEq, pp, pv, d41]
  refine W.mono (rlow_ok hR h hG hB hl 8 (by omega)) ?_
  rintro ⟨w, s1⟩ ⟨hw, bv', hin, X1, hb1⟩
  simp only at hw hin X1 hb1
  subst hw
  have hrd : rdN 8 0 (bs, bad) = (dwrap .i64 (leV (tk 8 (bs, bad)).1), (tk 8 (bs, bad)).2) := by
    unfold rdN
    by_cases hb : (tk 8 (bs, bad)).2.2 = true
    · rw [if_pos hb]
      have : (tk 8 (bs, bad)).1 = [] := by
        unfold tk at hb ⊢
        split
        · rfl
        · rename_i h1
          rw [if_neg h1] at hb
          cases hb
      rw [this]
      rfl
    · rw [if_neg hb, if_neg (by simp)]
  rw [hrd] at hQ
  simp (maxSteps := 4000000) only [WC_ret, contS_normal, contR_ap, WO_nil, WO_pp, contO_ap, atS_ap, W_some, W_mv, W_cvInt, dpure, Ends_ret, ev_tmp, putT_some, get_put_eq, Option.getD_some, dresults, tupled]
  exact hQ _ ⟨bv', rfl, hin, X1, hb1⟩
end
def restU : DCode := (.seq (.seq (.region [pp 8 (.mv (.const (.int .i64 0)))]) (.block 0 (.loop (.seq (.seq (.region [pv 32 8, pv 33 6, pp 34 (.bin .lss (tm 32) (tm 33)), pv 35 34, pw 36 4 35 true, pg 37 (.nilck (tm 36)) 35 true, pg 38 (.fadr 1 (tm 37)) 35 true, pg 39 (.ld none (tm 38)) 35 true, pg 40 (.un .not (tm 39)) 35 true, pp 41 (.pick (tm 35) (tm 40) (.const (.bool false)))]) (.cond (tm 41) (.skip) (.exit 0))) (.seq (.block 1 (.seq (.region [pp 44 (.build [.int .i64 0, .int .i64 0] []), pp 9 (.alloc [.int .i64 0, .int .i64 0]), ⟨none, .st 2 (tm 9) (tm 44), none, [], false⟩]) (.seq (.region [pv 45 4, pp 46 (.call (.func 41) [.tmp 45]), pp 47 (.fadr 0 (tm 9)), ⟨none, .st 1 (tm 47) (tm 46), none, [], false⟩]) (.seq (.region [pv 48 4, pp 49 (.call (.func 41) [.tmp 48]), pp 50 (.fadr 1 (tm 9)), ⟨none, .st 1 (tm 50) (tm 49), none, [], false⟩]) (.seq (.region [pv 51 7, pv 52 51, pw 53 8 52 true, pg 54 (.bin .eql (tm 53) (.const (.int .i64 0))) 52 true, pw 55 54 52 true, pw 56 5 55 false, pg 57 (.nilck (tm 56)) 55 false, pg 58 (.fadr 0 (tm 57)) 55 false, pg 59 (.ld none (tm 58)) 55 false, pw 60 8 55 false, pg 61 (.bin .sub (tm 60) (.const (.int .i64 1))) 55 false, pg 62 (.ixL 2 (tm 59) (tm 61)) 55 false, pg 63 (.fadr 0 (tm 62)) 55 false, pg 64 (.ld none (tm 63)) 55 false, pg 65 (.fadr 0 (tm 9)) 55 false, pg 66 (.ld none (tm 65)) 55 false, pg 67 (.bin .lss (tm 64) (tm 66)) 55 false, pg 68 (.pick (tm 55) (.const (.bool true)) (tm 67)) 52 true, pp 69 (.pick (tm 52) (tm 68) (.const (.bool false))), pv 7 69]) (.region [pv 70 5, pv 71 5, pp 72 (.nilck (tm 71)), pp 73 (.fadr 0 (tm 72)), pp 74 (.ld none (tm 73)), pp 75 (.ld (some 2) (tm 9)), pp 76 (.bslice 1 2 [.int .i64 0, .int .i64 0] [(0, 2, .tmp 75)]), pp 77 (.bapp 16 2 (tm 74) (tm 76)), pp 78 (.nilck (tm 70)), pp 79 (.fadr 0 (tm 78)), ⟨none, .st 1 (tm 79) (tm 77), none, [], false⟩])))))) (.region [pv 42 8, pp 43 (.bin .add (tm 42) (.const (.int .i64 1))), pv 8 43])))))) (.seq (.seq (.region [pv 80 4, pp 81 (.nilck (tm 80)), pp 82 (.fadr 1 (tm 81)), pp 83 (.ld none (tm 82)), pv 84 83, pw 85 4 84 false, pg 86 (.nilck (tm 85)) 84 false, pg 87 (.fadr 0 (tm 86)) 84 false, pg 88 (.ld none (tm 87)) 84 false, pg 89 (.blenL (tm 88)) 84 false, pg 90 (.bin .gtr (tm 89) (.const (.int .i64 0))) 84 false, pp 91 (.pick (tm 84) (.const (.bool true)) (tm 90)), pv 92 91, pw 93 7 92 false, pg 94 (.un .not (tm 93)) 92 false, pp 95 (.pick (tm 92) (.const (.bool true)) (tm 94))]) (.cond (tm 95) (.seq (.region [pp 2 (.mv (.const (.pointer none))), pp 3 (.mv (.const (.int .i64 10)))]) (.ret)) (.skip))) (.seq (.region [pv 96 5, pv 2 96, pp 3 (.mv (.const (.int .i64 0)))]) (.ret))))
def dUx : DFunc := { ntmps := 97, results := [.tmp 2, .tmp 3], body := .seq (.region [pp 2 (.mv (.const (.pointer none))), pp 3 (.mv (.const (.int .i64 0)))]) (.seq (.region [pv 10 0, pp 11 (.build [.slice none 0 0, .bool false] [(0, 1, .tmp 10)]), pp 12 (.box (tm 11)), pv 4 12]) (.seq (.region [pv 13 4, pp 14 (.call (.func 39) [.tmp 13]), pp 15 (.build [.slice none 0 0, .int .i64 0] [(1, 1, .tmp 14)]), pp 16 (.box (tm 15)), pv 5 16]) (.seq (.region [pv 17 4, pp 18 (.call (.func 40) [.tmp 17]), pv 6 18]) (.seq (.region [pv 19 5, pp 20 (.nilck (tm 19)), pp 21 (.fadr 1 (tm 20)), pp 22 (.ld none (tm 21)), pp 23 (.bin .leq (tm 22) (.const (.int .i64 4096))), pv 24 23, pw 25 6 24 true, pw 26 5 24 true, pg 27 (.nilck (tm 26)) 24 true, pg 28 (.fadr 1 (tm 27)) 24 true, pg 29 (.ld none (tm 28)) 24 true, pg 30 (.bin .leq (tm 25) (tm 29)) 24 true, pp 31 (.pick (tm 24) (tm 30) (.const (.bool false))), pv 7 31]) restU)))) }
theorem dUx_eq : d16 = dUx := rfl
def rdE : RS → Ent × RS := rdP (rdN 8 0) (rdN 8 0)
structure RUpI (S0 : DS) (r q N : Nat) (bv : Value) (room : Int) (B : Nat) (tot : List Ent × RS) (n : Nat) (y : St) : Prop where
  ex : ∃ (l : List Ent) (st : RS) (w bv' : Value) (okb : Bool), n + l.length = N ∧ y.defers = [] ∧
    (y.t.get 4 = some (.pointer (some ⟨r, 0, none⟩)) ∧ y.t.get 5 = some (.pointer (some ⟨q, 0, none⟩)) ∧ y.t.get 6 = some (.int .i64 (N : Int)) ∧ y.t.get 7 = some (.bool okb) ∧ y.t.get 8 = some (.int .i64 (l.length : Int))) ∧
    y.s.get q = some (.cells (.list [w, .int .i64 room]) false) ∧ SlX y.s 2 w (entV l) ∧ (∀ k, k ∈ blk w → S0.next ≤ k) ∧ InAt y.s r bv' st.1 st.2 ∧ (∀ k, k ∈ blk bv' → k ∈ blk bv) ∧ Ext [r, q] S0 y.s ∧ y.s.Good ∧ IsB st.1 ∧ st.1.length ≤ B ∧ rdLoop rdE n l st = tot ∧ (okb = true ↔ room ≤ 4096 ∧ (N : Int) ≤ room ∧ Rise l)
section
variable {E : Env} (hR : RInFns E) {s : DS} {bv : Value} {bs : List Int} {d : Nat}
include hR
theorem rupTail {S0 : DS} {r q N : Nat} {room : Int} {B : Nat} {st : RS} {tot : List Ent × RS} {okb : Bool} {t : PT Value} {Q : Value × DS → Prop}
    (gq : S0.get q = some (.cells (.list [.slice none 0 0, .int .i64 room]) false)) (wq : S0.wr q = true) (hI : InAt S0 r bv st.1 st.2) (hqr : q ≠ r) (hbq : ∀ k, k ∈ blk bv → k ≠ q) (hG : S0.Good) (hB : IsB st.1) (hl : st.1.length ≤ B) (hBm : B ≤ 1048576) (hN : N ≤ 4096)
    (htot : rdLoop rdE N [] st = tot) (hok : okb = true ↔ room ≤ 4096 ∧ (N : Int) ≤ room)
    (t4 : t.get 4 = some (.pointer (some ⟨r, 0, none⟩))) (t5 : t.get 5 = some (.pointer (some ⟨q, 0, none⟩))) (t6 : t.get 6 = some (.int .i64 (N : Int))) (t7 : t.get 7 = some (.bool okb))
    (hQ : ∀ p, (Ext [r, q] S0 p.2 ∧ ((¬ (tot.2.2 = false ∧ tot.2.1 = [] ∧ room ≤ 4096 ∧ (tot.1.length : Int) ≤ room ∧ Rise tot.1) ∧ p.1 = .tuple #[.pointer none, .int .i64 10]) ∨
      ((tot.2.2 = false ∧ tot.2.1 = [] ∧ room ≤ 4096 ∧ (tot.1.length : Int) ≤ room ∧ Rise tot.1) ∧ ∃ w, p.1 = .tuple #[.pointer (some ⟨q, 0, none⟩), .int .i64 0] ∧ RefS p.2 q w tot.1 room ∧ ∀ k, k ∈ blk w → S0.next ≤ k))) → Q p) :
    WC (dcall E (d + 4)) E.lf false restU ⟨t, S0, []⟩ (Ends [.tmp 2, .tmp 3] Q) := by
  have hlf := hR.lf
  have hrlt := DS.get_lt' hI.gr
  have hqlt := DS.get_lt' gq
  simp (maxSteps := 4000000) only [WC_seq, WC_region, WC_block, contS_normal, contR_ap, WO_nil, WO_pp, contO_ap, W_mv, ev_const, putT_some, pp, pv, pw, pg, restU, t4, t5, t6, t7]
  refine WC_loop (RUpI S0 r q N bv room B tot) N (by omega) ⟨[], st, .slice none 0 0, bv, okb, by simp, rfl, ?_, gq, .inl ⟨rfl, rfl⟩, by simp [blk], hI, fun k h => h, .refl, hG, hB, hl, htot, ?_⟩ ?_
  · simp (maxSteps := 4000000) only [get_put_eq, get_put_ne, Nat.reduceEqDiff, not_false_eq_true, List.length_nil, Bool.true_and, true_and, t4, t5, t6, t7]
    rfl
  · rw [hok]
    exact ⟨fun h => ⟨h.1, h.2, List.Pairwise.nil⟩, fun h => ⟨h.1, h.2.1⟩⟩
  rintro n ⟨t, S, ds⟩ hn ⟨l, st, w, bv', okb, hnl, hds, ⟨t4, t5, t6, t7, t8⟩, gqS, sl, hfr, I, b1, X, G, hBs, hls, htot, hok⟩
  simp only at hds t4 t5 t6 t7 t8 gqS sl I X G
  subst hds
  have gr := I.gr
  have le := X.le
  have wqS := X.wrs wq
  have hqS := DS.get_lt' gqS
  obtain ⟨wa, hwv⟩ := sl.shape
  rw [entV_len] at hwv
  have hqw : q ∉ blk w := fun h => by have := hfr _ h; omega
  obtain ⟨ba', bc', hbv'⟩ := I.sl.len
  rw [hbv'] at gr
  have nil : tot = (l, st) → ¬ (st.2 = false ∧ st.1 = [] ∧ room ≤ 4096 ∧ (l.length : Int) ≤ room ∧ Rise l) → Q (.tuple #[.pointer none, .int .i64 10], S) := fun h1 h2 => by
    subst h1
    exact hQ _ ⟨X, .inl ⟨h2, rfl⟩⟩
  cases n with
  | zero =>
    have ht : tot = (l, st) := htot.symm
    have hlN : l.length = N := by omega
    have e1 : ¬ (l.length : Int) < (N : Int) := by omega
    rw [← hlN] at hok
    cases hst : st.2 with
    | true =>
      have fin := nil ht (fun h => by rw [hst] at h; exact absurd h.1 (by simp))
      rw [hst] at gr
      simp (maxSteps := 4000000) only [WC_seq, WC_region, WC_cond, WC_ret, WC_exit, contS_normal, contS_ret, contS_exit, contB_exit, contR_ap, contL_exit, WO_nil, WO_pp, WO_g, gateO_tf, gateO_ft, condC_true, condC_false, contO_ap, atS_ap, W_some, W_mv, W_pick, W_bin, W_nilck, W_fadr, W_ld, dpure, dbin, dint, Ends_ret, ev_tmp, ev_const, putT_some, get_put_eq, get_put_ne, Nat.reduceEqDiff, not_false_eq_true, Option.getD_some, dresults, tupled, ldV_at, Cells.get, getN, Nat.zero_add, if_true, if_false, Bool.false_eq_true, List.nil_append, decide_false, t4, t5, t6, t7, t8, e1, gr]
      exact fin
    | false =>
      rw [hst] at gr
      by_cases hr : st.1 = []
      · have e2 : ¬ (0 : Int) < (st.1.length : Int) := by rw [hr]; simp
        cases okb with
        | false =>
          have fin := nil ht (fun h => absurd (hok.2 h.2.2) (by simp))
          simp (maxSteps := 4000000) only [WC_seq, WC_region, WC_cond, WC_ret, WC_exit, contS_normal, contS_ret, contS_exit, contB_exit, contR_ap, contL_exit, WO_nil, WO_pp, WO_g, gateO_ft, gateO_ff, condC_true, condC_false, contO_ap, atS_ap, W_some, W_mv, W_pick, W_bin, W_un, W_nilck, W_fadr, W_blenL, W_ld, dpure, dbin, dint, Ends_ret, ev_tmp, ev_const, putT_some, get_put_eq, get_put_ne, Nat.reduceEqDiff, not_false_eq_true, Option.getD_some, dresults, tupled, ldV_at, Cells.get, getN, Nat.zero_add, if_true, if_false, Bool.not_false, Bool.false_eq_true, List.nil_append, Nat.add_zero, decide_false, t4, t5, t6, t7, t8, e1, gr, e2]
          exact fin
        | true =>
          obtain ⟨k1, k2, k3⟩ := hok.1 rfl
          have fin : Q (.tuple #[.pointer (some ⟨q, 0, none⟩), .int .i64 0], S) := by
            subst ht
            exact hQ _ ⟨X, .inr ⟨⟨hst, hr, k1, k2, k3⟩, w, rfl, ⟨gqS, wqS, sl, hqw, k3⟩, hfr⟩⟩
          simp (maxSteps := 4000000) only [WC_seq, WC_region, WC_cond, WC_skip, WC_ret, WC_exit, contS_normal, contS_exit, contB_exit, contR_ap, contL_exit, WO_nil, WO_pp, WO_g, gateO_ft, gateO_ff, condC_false, contO_ap, atS_ap, W_some, W_mv, W_pick, W_bin, W_un, W_nilck, W_fadr, W_blenL, W_ld, dpure, dbin, dint, Ends_ret, ev_tmp, ev_const, putT_some, get_put_eq, get_put_ne, Nat.reduceEqDiff, not_false_eq_true, Option.getD_some, dresults, tupled, ldV_at, Cells.get, getN, Nat.zero_add, if_true, if_false, Bool.not_true, Bool.false_eq_true, List.nil_append, Nat.add_zero, decide_false, t4, t5, t6, t7, t8, e1, gr, e2]
          exact fin
      · have e2 : (0 : Int) < (st.1.length : Int) := by have := List.length_pos_iff.2 hr; omega
        have fin := nil ht (fun h => hr h.2.1)
        simp (maxSteps := 4000000) only [WC_seq, WC_region, WC_cond, WC_ret, WC_exit, contS_normal, contS_ret, contS_exit, contB_exit, contR_ap, contL_exit, WO_nil, WO_pp, WO_g, gateO_tf, gateO_ft, gateO_ff, condC_true, condC_false, contO_ap, atS_ap, W_some, W_mv, W_pick, W_bin, W_nilck, W_fadr, W_blenL, W_ld, dpure, dbin, dint, Ends_ret, ev_tmp, ev_const, putT_some, get_put_eq, get_put_ne, Nat.reduceEqDiff, not_false_eq_true, Option.getD_some, dresults, tupled, ldV_at, Cells.get, getN, Nat.zero_add, if_true, if_false, Bool.false_eq_true, List.nil_append, Nat.add_zero, decide_true, decide_false, t4, t5, t6, t7, t8, e1, gr, e2]
        exact fin
  | succ n =>
    have e1 : (l.length : Int) < (N : Int) := by omega
    cases hst : st.2 with
    | true =>
      have ht : tot = (l, st) := by rw [← htot]; exact rdLoop_bad _ _ _ hst
      have fin := nil ht (fun h => by rw [hst] at h; exact absurd h.1 (by simp))
      rw [hst] at gr
      simp (maxSteps := 4000000) only [WC_seq, WC_region, WC_cond, WC_ret, WC_exit, contS_normal, contS_ret, contS_exit, contB_exit, contR_ap, contL_exit, WO_nil, WO_pp, WO_g, gateO_tt, gateO_tf, condC_true, condC_false, contO_ap, atS_ap, W_some, W_mv, W_pick, W_bin, W_un, W_nilck, W_fadr, W_ld, dpure, dbin, dint, Ends_ret, ev_tmp, ev_const, putT_some, get_put_eq, get_put_ne, Nat.reduceEqDiff, not_false_eq_true, Option.getD_some, dresults, tupled, ldV_at, Cells.get, getN, Nat.zero_add, if_true, if_false, Bool.not_true, Bool.false_eq_true, List.nil_append, decide_true, t4, t5, t6, t7, t8, e1, gr]
      exact fin
    | false =>
      rw [hst] at gr
      have hrlS := DS.get_lt' gr
      simp (maxSteps := 4000000) (maxDischargeDepth := 8) only [WC_seq, WC_region, WC_cond, WC_block, WC_skip, contS_normal, contR_ap, WO_nil, WO_pp, WO_g, gateO_tt, condC_true, contO_ap, atS_ap, atD_ap, atG_ap, W_some, W_mv, W_pick, W_bin, W_un, W_nilck, W_build, W_fadr, W_ld, W_st, W_alloc, W_call, dpure, dbin, dint, ev_tmp, ev_const, ev_func, putT_some, putT_none, get_put_eq, get_put_ne, not_false_eq_true, Option.getD_some, List.map_cons, List.map_nil, ldV_at, Cells.get, getN, Nat.zero_add, Nat.reduceAdd, st_wr, cells_agg, List.length_cons, List.length_nil, allOne, oneCellD, Bool.and_self, Bool.and_true, Nat.beq_eq, Nat.ble_eq, Nat.le_refl, if_true, Bool.not_false, DS.wrC, Cells.size, Cells.fillFrom, Cells.set, setN, fillParts, wrN, decide_true, get_new_at, good_new, good_at, eq_lt, eq_gt, Nat.reduceLT, Nat.lt_add_one, t4, t5, t6, t7, t8, e1, gr, G]
      have hstE : (st.1, false) = st := Prod.ext rfl hst.symm
      rw [hst] at I
      obtain ⟨S5, hS5⟩ : ∃ S5 : DS, S5 = ((S.new (.cells (.list [.int .i64 0, .int .i64 0]) false)).upd S.next (.cells (.list [.int .i64 0, .int .i64 0]) false)) := ⟨_, rfl⟩
      rw [← hS5]
      have X5 : ∀ F, Ext F S S5 := fun F => by
        rw [hS5]
        have u1 : Ext F S (S.new (.cells (.list [.int .i64 0, .int .i64 0]) false)) := Ext.new
        have u2 : Ext [S.next] (S.new (.cells (.list [.int .i64 0, .int .i64 0]) false)) ((S.new (.cells (.list [.int .i64 0, .int .i64 0]) false)).upd S.next (.cells (.list [.int .i64 0, .int .i64 0]) false)) := Ext.upd (.inl (by simp))
        exact u1.trans u2 (by simp)
      have n5 : S5.next = S.next + 1 := by rw [hS5]; simp (maxSteps := 4000000) (maxDischargeDepth := 8) only [DS.upd_next, nextN]
      have g5 : S5.get S.next = some (.cells (.list [.int .i64 0, .int .i64 0]) false) := by rw [hS5]; simp (maxSteps := 4000000) (maxDischargeDepth := 8) only [DS.upd_get_self, Option.map_some, get_new_at, G]
      have G5 := (X5 []).good G
      refine W.mono (rint_ok hR (d := d + 1) (I.keep (X5 []) (by simp) (by simp)) G5 hBs (by omega)) ?_
      rintro ⟨v6, S6⟩ ⟨bv6, R6, I6, X6, b6⟩
      simp only at R6 I6 X6 b6
      have R6 : v6 = _ := R6
      subst R6
      rw [hstE] at I6 ⊢
      obtain ⟨K, hK⟩ : ∃ K, K = (rdN 8 0 st).1 := ⟨_, rfl⟩
      obtain ⟨st6, hst6⟩ : ∃ st6, st6 = (rdN 8 0 st).2 := ⟨_, rfl⟩
      obtain ⟨k6, hk6⟩ := (rdN_ok 8 0).suf st
      rw [← hK]
      rw [← hst6] at I6 hk6
      have g6 := X6.keep g5 (by simp; omega)
      have G6 := X6.good G5
      have le6 := X6.le
      have w6 : S6.wr S.next = true := X6.wrs ((X5 []).wrs (G _ (Nat.le_refl _)).2)
      simp (maxSteps := 4000000) (maxDischargeDepth := 8) only [WC_seq, WC_region, contS_normal, contR_ap, WO_nil, WO_pp, contO_ap, atS_ap, atD_ap, W_some, W_mv, W_fadr, W_st, W_call, dpure, ev_tmp, ev_func, putT_some, putT_none, get_put_eq, get_put_ne, not_false_eq_true, Option.getD_some, List.map_cons, List.map_nil, Nat.zero_add, Nat.reduceAdd, st_wr, cells_int, List.length_cons, List.length_nil, allOne, oneCellD, Bool.and_self, Bool.and_true, Nat.beq_eq, Nat.ble_eq, Nat.reduceLeDiff, if_true, DS.wrC, Cells.size, Cells.fillFrom, Cells.set, setN, Nat.add_zero, eq_lt, Nat.reduceLT, Nat.lt_add_one, t4, t5, t6, t7, t8, g6, w6, G6, show S.next < S6.next by omega]
      obtain ⟨S7, hS7⟩ : ∃ S7 : DS, S7 = S6.upd S.next (.cells (.list [.int .i64 K, .int .i64 0]) false) := ⟨_, rfl⟩
      rw [← hS7]
      have X7 : Ext [S.next] S6 S7 := by rw [hS7]; exact Ext.upd (.inl (by simp))
      have n7 : S7.next = S6.next := by rw [hS7]; simp (maxSteps := 4000000) (maxDischargeDepth := 8) only [DS.upd_next]
      have g7 : S7.get S.next = some (.cells (.list [.int .i64 K, .int .i64 0]) false) := by rw [hS7, DS.upd_get_self, g6]; rfl
      have G7 := X7.good G6
      have w7 := X7.wrs w6
      have hb6 : ∀ k, k ∈ blk bv6 → k < S.next := fun k hk => I.sl.lt k (b6 k hk)
      refine W.mono (rint_ok hR (d := d + 1) (I6.keep X7 (by simp; omega) (fun k hk => by have := hb6 k hk; simp; omega)) G7 (by rw [hk6]; exact hBs.drop k6) (by rw [hk6]; simp; omega)) ?_
      rintro ⟨v8, S8⟩ ⟨bv8, R8, I8, X8, b8⟩
      simp only at R8 I8 X8 b8
      have R8 : v8 = _ := R8
      subst R8
      have hst6E : (st6.1, st6.2) = st6 := rfl
      rw [hst6E] at I8 ⊢
      obtain ⟨V, hV⟩ : ∃ V, V = (rdN 8 0 st6).1 := ⟨_, rfl⟩
      obtain ⟨st8, hst8⟩ : ∃ st8, st8 = (rdN 8 0 st6).2 := ⟨_, rfl⟩
      obtain ⟨k8, hk8⟩ := (rdN_ok 8 0).suf st6
      rw [← hV]
      rw [← hst8] at I8 hk8
      have hrdE : rdE st = ((K, V), st8) := by rw [hK, hV, hst8, hst6]; rfl
      have g8 := X8.keep g7 (by simp; omega)
      have G8 := X8.good G7
      have w8 := X8.wrs w7
      have le8 := X8.le
      have XB : Ext [S.next, r] S6 S8 := (X7.weaken (by simp)).trans' (X8.weaken (by simp))
      have XA : Ext [r] S S8 := ((X5 _).trans' X6).trans XB (by simp)
      have X8' := XA
      have hwS : ∀ k, k ∈ blk w → k < S.next := fun k hk => sl.lt k hk
      have sl8 := sl.keep XA (fun k hk => by have := hfr k hk; simp; omega)
      have gq8 := XA.keep gqS (by simp; exact hqr)
      have hIw : ∀ k, k ∈ blk bv8 → k ∉ blk w := fun k hk h => by
        have := hfr k h
        have := hI.sl.lt k (b1 k (b6 k (b8 k hk)))
        omega
      have lq8 : q < S8.next := by omega
      cases okb with
      | false =>
        have hok' : (false = true ↔ room ≤ 4096 ∧ (N : Int) ≤ room ∧ Rise (l ++ [(K, V)])) :=
          ⟨(fun h => by cases h), fun h => hok.2 ⟨h.1, h.2.1, (List.pairwise_append.1 h.2.2).1⟩⟩
        · simp (maxSteps := 4000000) (maxDischargeDepth := 8) only [WC_seq, WC_region, contS_normal, contR_ap, WO_nil, WO_pp, WO_g, gateO_ft, contO_ap, atS_ap, atD_ap, atL_ap, W_some, W_mv, W_pick, W_nilck, W_fadr, W_ld, W_st, dpure, ev_tmp, ev_const, putT_some, putT_none, get_put_eq, get_put_ne, not_false_eq_true, Option.getD_some, ldV_at, Cells.get, getN, Nat.zero_add, Nat.reduceAdd, st_wr, cells_int, cells_agg, List.length_cons, List.length_nil, allOne, oneCellD, Bool.and_self, Bool.and_true, Bool.and_eq_true, Nat.beq_eq, Nat.ble_eq, Nat.reduceLeDiff, Nat.le_refl, and_self, if_true, if_false, Bool.false_eq_true, DS.wrC, Cells.size, Cells.fillFrom, Cells.set, setN, fillParts, List.take_zero, List.drop_succ_cons, List.nil_append, List.drop_nil, List.append_nil, DS.upd_get_self, DS.upd_get_ne, DS.upd_next, Option.map_some, W_app, W_bslice, repeatZ, Nat.reduceMul, atL_ap, W_ldA, ldA, Nat.add_zero, DS.read, Cells.take, gateO_un, eq_lt, eq_gt, Nat.reduceLT, Nat.lt_add_one, t4, t5, t6, t7, t8, g8, w8, G8, gq8, lq8, show S.next < S8.next by omega, show ¬ q = S.next by omega]
          obtain ⟨S9, hS9⟩ : ∃ S9 : DS, S9 = ((S8.upd S.next (.cells (.list [.int .i64 K, .int .i64 V]) false)).new (.cells (.list [.int .i64 K, .int .i64 V]) false)) := ⟨_, rfl⟩
          rw [← hS9]
          have X9 : Ext [S.next] S8 S9 := by rw [hS9]; exact (Ext.upd (.inl (by simp))).trans' Ext.new
          have n9 : S9.next = S8.next + 1 := by rw [hS9]; simp (maxSteps := 4000000) (maxDischargeDepth := 8) only [DS.upd_next, nextN]
          have g9 : S9.get S8.next = some (.cells (.list [.int .i64 K, .int .i64 V]) false) := by rw [hS9]; simp (maxSteps := 4000000) (maxDischargeDepth := 8) only [DS.upd_next, get_new_at, DS.upd_good, G8]
          have G9 := X9.good G8
          have sl9 := sl8.keep X9 (fun k hk => by have := hwS k hk; simp; omega)
          have hw9 : SlV S9 2 (.slice (some ⟨S8.next, 0, none⟩) 1 1) (entV [(K, V)]) := .inr ⟨S8.next, 0, none, 1, rfl, by unfold DS.read; rw [g9]; rfl⟩
          have hlen : (entV l).length + (entV [(K, V)]).length ≤ 4097 := by rw [entV_len, entV_len]; simp; omega
          refine W.mono (appV_ok sl9 hw9 (entV_ok _) (entV_ok [(K, V)]) G9 (by omega) (by omega)) ?_
          rintro ⟨w10, S10⟩ ⟨sl10, X10, b10⟩
          simp only at sl10 X10 b10
          have hcat : entV l ++ entV [(K, V)] = entV (l ++ [(K, V)]) := by unfold entV; rw [List.map_append]
          rw [hcat] at sl10
          have le10 := X10.le
          have G10 := X10.good G9
          have gq10 := X10.keep (X9.keep gq8 (by simp; omega)) hqw
          have wq10 := X10.wrs (X9.wrs (X8'.wrs wqS))
          obtain ⟨a10, h10⟩ := sl10.shape
          subst h10
          have fr10 : ∀ k, k ∈ blk (.slice a10 (entV (l ++ [(K, V)])).length (entV (l ++ [(K, V)])).length) → S0.next ≤ k := fun k hk => by
            rcases b10 k hk with h | h
            · exact hfr k h
            · omega
          have U : ∀ o, Ext [q] S10 (S10.upd q o) := fun o => Ext.upd (.inl (by simp))
          have w11 : dwrap .i64 ((l.length : Int) + 1) = ((l.length + 1 : Nat) : Int) := by rw [dwrap_in (by omega) (by omega)]; omega
          simp (maxSteps := 4000000) (maxDischargeDepth := 8) only [WC_region, contS_normal, contB_normal, contR_ap, contL_normal, WO_nil, WO_pp, contO_ap, atS_ap, atD_ap, W_some, W_mv, W_bin, W_nilck, W_fadr, W_st, dpure, dbin, dint, ev_tmp, ev_const, putT_some, putT_none, get_put_eq, get_put_ne, not_false_eq_true, Option.getD_some, Nat.zero_add, Nat.reduceAdd, st_wr, cells_slice, List.length_cons, List.length_nil, allOne, oneCellD, Bool.and_self, Bool.and_true, Nat.beq_eq, Nat.ble_eq, Nat.reduceLeDiff, if_true, DS.wrC, Cells.size, Cells.fillFrom, Cells.set, setN, Nat.add_zero, eq_lt, eq_gt, Nat.reduceLT, Nat.lt_add_one, t4, t5, t6, t7, t8, gq10, wq10, w11]
          have hI8 : ∀ k, k ∈ blk bv8 → k < S.next := fun k hk => hb6 k (b8 k hk)
          refine ⟨n, by omega, ⟨l ++ [(K, V)], st8, _, bv8, false, by simp; omega, rfl, ?_, by rw [DS.upd_get_self, gq10]; rfl, sl10.keep (U _) (fun k hk e => by have := fr10 k hk; have e := List.mem_singleton.1 e; omega), fr10, ?_, fun k hk => b1 k (b6 k (b8 k hk)), ?_, (U _).good G10, by rw [hk8, hk6]; exact (hBs.drop k6).drop k8, by rw [hk8, hk6]; simp; omega, ?_, ?_⟩⟩
          · simp (maxSteps := 4000000) (maxDischargeDepth := 8) only [get_put_eq, get_put_ne, not_false_eq_true, Nat.zero_add, List.length_cons, List.length_nil, Bool.and_self, and_self, List.length_append, eq_lt, Nat.reduceLT, Nat.lt_add_one, t4, t5, t6, t7, t8]
          · refine (((I8.keep X9 (by simp; omega) (fun k hk => by have := hI8 k hk; simp; omega)).keep X10 (fun h => by have := hfr _ h; omega) (fun k hk h => hIw k hk h))).keep (U _) (by simp; omega) (fun k hk e => ?_)
            have e := List.mem_singleton.1 e
            exact hbq k (b1 k (b6 k (b8 k hk))) e
          · have z1 : Ext [r, q] S0 S8 := X.trans' (X8'.weaken (by simp))
            have z2 : Ext [r, q] S0 S9 := z1.trans X9 (by simp; omega)
            have z3 : Ext [r, q] S0 S10 := z2.trans X10 fun k hk => .inr (hfr k hk)
            exact z3.trans' ((U _).weaken (by simp))
          · rw [← htot, rdLoop, if_neg (by rw [hst]; simp), hrdE]
          · exact hok'
      | true =>
        obtain ⟨k1, k2, k3⟩ := hok.1 rfl
        have h3 : l.length = 0 ∨ (∃ y, l[l.length - 1]? = some y ∧ 0 < l.length ∧ y.1 < K) ∨ ∃ y, l[l.length - 1]? = some y ∧ 0 < l.length ∧ ¬ y.1 < K := by
          by_cases h0 : l.length = 0
          · exact .inl h0
          · have hy : l[l.length - 1]? = some l[l.length - 1] := List.getElem?_eq_getElem (by omega)
            by_cases h4 : l[l.length - 1].1 < K
            · exact .inr (.inl ⟨_, hy, by omega, h4⟩)
            · exact .inr (.inr ⟨_, hy, by omega, h4⟩)
        rcases h3 with c0 | ⟨y, hy, c0, c4⟩ | ⟨y, hy, c0, c4⟩
        · have hok' : (true = true ↔ room ≤ 4096 ∧ (N : Int) ≤ room ∧ Rise (l ++ [(K, V)])) :=
            ⟨fun _ => ⟨k1, k2, by rw [List.eq_nil_of_length_eq_zero c0]; exact List.pairwise_singleton ..⟩, fun _ => rfl⟩
          have e0 : (l.length : Int) = 0 := by omega
          simp (maxSteps := 4000000) (maxDischargeDepth := 8) only [WC_seq, WC_region, contS_normal, contR_ap, WO_nil, WO_pp, WO_g, gateO_tt, gateO_tf, contO_ap, atS_ap, atD_ap, atL_ap, W_some, W_mv, W_pick, W_bin, W_nilck, W_fadr, W_ld, W_st, dpure, dbin, dint, ev_tmp, ev_const, putT_some, putT_none, get_put_eq, get_put_ne, not_false_eq_true, Option.getD_some, ldV_at, Cells.get, getN, Nat.zero_add, Nat.reduceAdd, st_wr, cells_int, cells_agg, List.length_cons, List.length_nil, allOne, oneCellD, Bool.and_self, Bool.and_true, Bool.and_eq_true, Nat.beq_eq, Nat.ble_eq, Nat.reduceLeDiff, Nat.le_refl, and_self, if_true, if_false, Bool.false_eq_true, DS.wrC, Cells.size, Cells.fillFrom, Cells.set, setN, fillParts, List.take_zero, List.drop_succ_cons, List.nil_append, List.drop_nil, List.append_nil, DS.upd_get_self, DS.upd_get_ne, DS.upd_next, Option.map_some, W_app, W_bslice, repeatZ, Nat.reduceMul, atL_ap, W_ldA, ldA, Nat.add_zero, decide_true, DS.read, Cells.take, eq_lt, eq_gt, Nat.reduceLT, Nat.lt_add_one, t4, t5, t6, t7, t8, g8, w8, G8, gq8, lq8, show S.next < S8.next by omega, show ¬ q = S.next by omega, e0]
          obtain ⟨S9, hS9⟩ : ∃ S9 : DS, S9 = ((S8.upd S.next (.cells (.list [.int .i64 K, .int .i64 V]) false)).new (.cells (.list [.int .i64 K, .int .i64 V]) false)) := ⟨_, rfl⟩
          rw [← hS9]
          have X9 : Ext [S.next] S8 S9 := by rw [hS9]; exact (Ext.upd (.inl (by simp))).trans' Ext.new
          have n9 : S9.next = S8.next + 1 := by rw [hS9]; simp (maxSteps := 4000000) (maxDischargeDepth := 8) only [DS.upd_next, nextN]
          have g9 : S9.get S8.next = some (.cells (.list [.int .i64 K, .int .i64 V]) false) := by rw [hS9]; simp (maxSteps := 4000000) (maxDischargeDepth := 8) only [DS.upd_next, get_new_at, DS.upd_good, G8]
          have G9 := X9.good G8
          have sl9 := sl8.keep X9 (fun k hk => by have := hwS k hk; simp; omega)
          have hw9 : SlV S9 2 (.slice (some ⟨S8.next, 0, none⟩) 1 1) (entV [(K, V)]) := .inr ⟨S8.next, 0, none, 1, rfl, by unfold DS.read; rw [g9]; rfl⟩
          have hlen : (entV l).length + (entV [(K, V)]).length ≤ 4097 := by rw [entV_len, entV_len]; simp; omega
          refine W.mono (appV_ok sl9 hw9 (entV_ok _) (entV_ok [(K, V)]) G9 (by omega) (by omega)) ?_
          rintro ⟨w10, S10⟩ ⟨sl10, X10, b10⟩
          simp only at sl10 X10 b10
          have hcat : entV l ++ entV [(K, V)] = entV (l ++ [(K, V)]) := by unfold entV; rw [List.map_append]
          rw [hcat] at sl10
          have le10 := X10.le
          have G10 := X10.good G9
          have gq10 := X10.keep (X9.keep gq8 (by simp; omega)) hqw
          have wq10 := X10.wrs (X9.wrs (X8'.wrs wqS))
          obtain ⟨a10, h10⟩ := sl10.shape
          subst h10
          have fr10 : ∀ k, k ∈ blk (.slice a10 (entV (l ++ [(K, V)])).length (entV (l ++ [(K, V)])).length) → S0.next ≤ k := fun k hk => by
            rcases b10 k hk with h | h
            · exact hfr k h
            · omega
          have U : ∀ o, Ext [q] S10 (S10.upd q o) := fun o => Ext.upd (.inl (by simp))
          have w11 : dwrap .i64 ((l.length : Int) + 1) = ((l.length + 1 : Nat) : Int) := by rw [dwrap_in (by omega) (by omega)]; omega
          simp (maxSteps := 4000000) (maxDischargeDepth := 8) only [WC_region, contS_normal, contB_normal, contR_ap, contL_normal, WO_nil, WO_pp, contO_ap, atS_ap, atD_ap, W_some, W_mv, W_bin, W_nilck, W_fadr, W_st, dpure, dbin, dint, ev_tmp, ev_const, putT_some, putT_none, get_put_eq, get_put_ne, not_false_eq_true, Option.getD_some, Nat.zero_add, Nat.reduceAdd, st_wr, cells_slice, List.length_cons, List.length_nil, allOne, oneCellD, Bool.and_self, Bool.and_true, Nat.beq_eq, Nat.ble_eq, Nat.reduceLeDiff, if_true, DS.wrC, Cells.size, Cells.fillFrom, Cells.set, setN, Nat.add_zero, eq_lt, eq_gt, Nat.reduceLT, Nat.lt_add_one, t4, t5, t6, t7, t8, gq10, wq10, w11]
          have hI8 : ∀ k, k ∈ blk bv8 → k < S.next := fun k hk => hb6 k (b8 k hk)
          refine ⟨n, by omega, ⟨l ++ [(K, V)], st8, _, bv8, true, by simp; omega, rfl, ?_, by rw [DS.upd_get_self, gq10]; rfl, sl10.keep (U _) (fun k hk e => by have := fr10 k hk; have e := List.mem_singleton.1 e; omega), fr10, ?_, fun k hk => b1 k (b6 k (b8 k hk)), ?_, (U _).good G10, by rw [hk8, hk6]; exact (hBs.drop k6).drop k8, by rw [hk8, hk6]; simp; omega, ?_, ?_⟩⟩
          · simp (maxSteps := 4000000) (maxDischargeDepth := 8) only [get_put_eq, get_put_ne, not_false_eq_true, Nat.zero_add, List.length_cons, List.length_nil, Bool.and_self, and_self, List.length_append, eq_lt, Nat.reduceLT, Nat.lt_add_one, t4, t5, t6, t7, t8]
          · refine (((I8.keep X9 (by simp; omega) (fun k hk => by have := hI8 k hk; simp; omega)).keep X10 (fun h => by have := hfr _ h; omega) (fun k hk h => hIw k hk h))).keep (U _) (by simp; omega) (fun k hk e => ?_)
            have e := List.mem_singleton.1 e
            exact hbq k (b1 k (b6 k (b8 k hk))) e
          · have z1 : Ext [r, q] S0 S8 := X.trans' (X8'.weaken (by simp))
            have z2 : Ext [r, q] S0 S9 := z1.trans X9 (by simp; omega)
            have z3 : Ext [r, q] S0 S10 := z2.trans X10 fun k hk => .inr (hfr k hk)
            exact z3.trans' ((U _).weaken (by simp))
          · rw [← htot, rdLoop, if_neg (by rw [hst]; simp), hrdE]
          · exact hok'
        · have hok' : (true = true ↔ room ≤ 4096 ∧ (N : Int) ≤ room ∧ Rise (l ++ [(K, V)])) := by
            refine ⟨fun _ => ⟨k1, k2, rise_snoc k3 ?_⟩, fun _ => rfl⟩
            have h1 : l.length - 1 + 1 = l.length := by omega
            have := rise_last (L := l) (i := l.length - 1) (x := (K, V)) (by rw [h1, List.take_length]; exact k3) hy c4
            rwa [h1, List.take_length] at this
          have e0 : ¬ (l.length : Int) = 0 := by omega
          have w3 : dwrap .i64 ((l.length : Int) - 1) = ((l.length - 1 : Nat) : Int) := by rw [dwrap_in (by omega) (by omega)]; omega
          have c3 : l.length - 1 < l.length := by omega
          obtain ⟨b, sp, hv', _, hb, _⟩ := sl8.at (fun e => by have := entV_len l; rw [e] at this; simp at this; omega)
          rw [entV_len] at hv'
          have hbn : b < S.next := hwS b (by rw [hv']; simp [blk])
          have hgy := entV_get0 hy
          subst hv'
          simp (maxSteps := 4000000) (maxDischargeDepth := 8) only [WC_seq, WC_region, contS_normal, contR_ap, WO_nil, WO_pp, WO_g, gateO_tt, gateO_ff, contO_ap, atS_ap, atD_ap, atL_ap, W_some, W_mv, W_pick, W_bin, W_nilck, W_fadr, W_ixL, W_ld, W_st, dpure, dbin, dint, ev_tmp, ev_const, putT_some, putT_none, get_put_eq, get_put_ne, not_false_eq_true, Option.getD_some, ldV_at, Cells.get, getN, Nat.zero_add, Nat.reduceAdd, st_wr, cells_int, cells_agg, List.length_cons, List.length_nil, allOne, oneCellD, Bool.and_self, Bool.and_true, Bool.and_eq_true, Nat.beq_eq, Nat.ble_eq, Nat.blt_eq, Nat.reduceLeDiff, Nat.le_refl, and_self, if_true, if_false, Bool.false_eq_true, DS.wrC, Cells.size, Cells.fillFrom, Cells.set, setN, fillParts, List.take_zero, List.drop_succ_cons, List.nil_append, List.drop_nil, List.append_nil, DS.upd_get_self, DS.upd_get_ne, DS.upd_next, Option.map_some, W_app, W_bslice, repeatZ, Nat.reduceMul, atL_ap, W_ldA, ldA, Nat.add_zero, asIdx_cast, decide_true, decide_false, DS.read, Cells.take, eq_lt, eq_gt, Nat.reduceLT, Nat.lt_add_one, t4, t5, t6, t7, t8, g8, w8, G8, gq8, lq8, show S.next < S8.next by omega, show ¬ q = S.next by omega, e0, w3, c3, hb, hgy, c4, show ¬ b = S.next by omega]
          obtain ⟨S9, hS9⟩ : ∃ S9 : DS, S9 = ((S8.upd S.next (.cells (.list [.int .i64 K, .int .i64 V]) false)).new (.cells (.list [.int .i64 K, .int .i64 V]) false)) := ⟨_, rfl⟩
          rw [← hS9]
          have X9 : Ext [S.next] S8 S9 := by rw [hS9]; exact (Ext.upd (.inl (by simp))).trans' Ext.new
          have n9 : S9.next = S8.next + 1 := by rw [hS9]; simp (maxSteps := 4000000) (maxDischargeDepth := 8) only [DS.upd_next, nextN]
          have g9 : S9.get S8.next = some (.cells (.list [.int .i64 K, .int .i64 V]) false) := by rw [hS9]; simp (maxSteps := 4000000) (maxDischargeDepth := 8) only [DS.upd_next, get_new_at, DS.upd_good, G8]
          have G9 := X9.good G8
          have sl9 := sl8.keep X9 (fun k hk => by have := hwS k hk; simp; omega)
          have hw9 : SlV S9 2 (.slice (some ⟨S8.next, 0, none⟩) 1 1) (entV [(K, V)]) := .inr ⟨S8.next, 0, none, 1, rfl, by unfold DS.read; rw [g9]; rfl⟩
          have hlen : (entV l).length + (entV [(K, V)]).length ≤ 4097 := by rw [entV_len, entV_len]; simp; omega
          refine W.mono (appV_ok sl9 hw9 (entV_ok _) (entV_ok [(K, V)]) G9 (by omega) (by omega)) ?_
          rintro ⟨w10, S10⟩ ⟨sl10, X10, b10⟩
          simp only at sl10 X10 b10
          have hcat : entV l ++ entV [(K, V)] = entV (l ++ [(K, V)]) := by unfold entV; rw [List.map_append]
          rw [hcat] at sl10
          have le10 := X10.le
          have G10 := X10.good G9
          have gq10 := X10.keep (X9.keep gq8 (by simp; omega)) hqw
          have wq10 := X10.wrs (X9.wrs (X8'.wrs wqS))
          obtain ⟨a10, h10⟩ := sl10.shape
          subst h10
          have fr10 : ∀ k, k ∈ blk (.slice a10 (entV (l ++ [(K, V)])).length (entV (l ++ [(K, V)])).length) → S0.next ≤ k := fun k hk => by
            rcases b10 k hk with h | h
            · exact hfr k h
            · omega
          have U : ∀ o, Ext [q] S10 (S10.upd q o) := fun o => Ext.upd (.inl (by simp))
          have w11 : dwrap .i64 ((l.length : Int) + 1) = ((l.length + 1 : Nat) : Int) := by rw [dwrap_in (by omega) (by omega)]; omega
          simp (maxSteps := 4000000) (maxDischargeDepth := 8) only [WC_region, contS_normal, contB_normal, contR_ap, contL_normal, WO_nil, WO_pp, contO_ap, atS_ap, atD_ap, W_some, W_mv, W_bin, W_nilck, W_fadr, W_st, dpure, dbin, dint, ev_tmp, ev_const, putT_some, putT_none, get_put_eq, get_put_ne, not_false_eq_true, Option.getD_some, Nat.zero_add, Nat.reduceAdd, st_wr, cells_slice, List.length_cons, List.length_nil, allOne, oneCellD, Bool.and_self, Bool.and_true, Nat.beq_eq, Nat.ble_eq, Nat.reduceLeDiff, if_true, DS.wrC, Cells.size, Cells.fillFrom, Cells.set, setN, Nat.add_zero, eq_lt, eq_gt, Nat.reduceLT, Nat.lt_add_one, t4, t5, t6, t7, t8, gq10, wq10, w11]
          have hI8 : ∀ k, k ∈ blk bv8 → k < S.next := fun k hk => hb6 k (b8 k hk)
          refine ⟨n, by omega, ⟨l ++ [(K, V)], st8, _, bv8, true, by simp; omega, rfl, ?_, by rw [DS.upd_get_self, gq10]; rfl, sl10.keep (U _) (fun k hk e => by have := fr10 k hk; have e := List.mem_singleton.1 e; omega), fr10, ?_, fun k hk => b1 k (b6 k (b8 k hk)), ?_, (U _).good G10, by rw [hk8, hk6]; exact (hBs.drop k6).drop k8, by rw [hk8, hk6]; simp; omega, ?_, ?_⟩⟩
          · simp (maxSteps := 4000000) (maxDischargeDepth := 8) only [get_put_eq, get_put_ne, not_false_eq_true, Nat.zero_add, List.length_cons, List.length_nil, Bool.and_self, and_self, List.length_append, eq_lt, Nat.reduceLT, Nat.lt_add_one, t4, t5, t6, t7, t8]
          · refine (((I8.keep X9 (by simp; omega) (fun k hk => by have := hI8 k hk; simp; omega)).keep X10 (fun h => by have := hfr _ h; omega) (fun k hk h => hIw k hk h))).keep (U _) (by simp; omega) (fun k hk e => ?_)
            have e := List.mem_singleton.1 e
            exact hbq k (b1 k (b6 k (b8 k hk))) e
          · have z1 : Ext [r, q] S0 S8 := X.trans' (X8'.weaken (by simp))
            have z2 : Ext [r, q] S0 S9 := z1.trans X9 (by simp; omega)
            have z3 : Ext [r, q] S0 S10 := z2.trans X10 fun k hk => .inr (hfr k hk)
            exact z3.trans' ((U _).weaken (by simp))
          · rw [← htot, rdLoop, if_neg (by rw [hst]; simp), hrdE]
          · exact hok'
        · have hok' : (false = true ↔ room ≤ 4096 ∧ (N : Int) ≤ room ∧ Rise (l ++ [(K, V)])) :=
            ⟨(fun h => by cases h), fun h => absurd ((List.pairwise_append.1 h.2.2).2.2 y (List.mem_of_getElem? hy) (K, V) (by simp)) c4⟩
          have e0 : ¬ (l.length : Int) = 0 := by omega
          have w3 : dwrap .i64 ((l.length : Int) - 1) = ((l.length - 1 : Nat) : Int) := by rw [dwrap_in (by omega) (by omega)]; omega
          have c3 : l.length - 1 < l.length := by omega
          obtain ⟨b, sp, hv', _, hb, _⟩ := sl8.at (fun e => by have := entV_len l; rw [e] at this; simp at this; omega)
          rw [entV_len] at hv'
          have hbn : b < S.next := hwS b (by rw [hv']; simp [blk])
          have hgy := entV_get0 hy
          subst hv'
          simp (maxSteps := 4000000) (maxDischargeDepth := 8) only [WC_seq, WC_region, contS_normal, contR_ap, WO_nil, WO_pp, WO_g, gateO_tt, gateO_ff, contO_ap, atS_ap, atD_ap, atL_ap, W_some, W_mv, W_pick, W_bin, W_nilck, W_fadr, W_ixL, W_ld, W_st, dpure, dbin, dint, ev_tmp, ev_const, putT_some, putT_none, get_put_eq, get_put_ne, not_false_eq_true, Option.getD_some, ldV_at, Cells.get, getN, Nat.zero_add, Nat.reduceAdd, st_wr, cells_int, cells_agg, List.length_cons, List.length_nil, allOne, oneCellD, Bool.and_self, Bool.and_true, Bool.and_eq_true, Nat.beq_eq, Nat.ble_eq, Nat.blt_eq, Nat.reduceLeDiff, Nat.le_refl, and_self, if_true, if_false, Bool.false_eq_true, DS.wrC, Cells.size, Cells.fillFrom, Cells.set, setN, fillParts, List.take_zero, List.drop_succ_cons, List.nil_append, List.drop_nil, List.append_nil, DS.upd_get_self, DS.upd_get_ne, DS.upd_next, Option.map_some, W_app, W_bslice, repeatZ, Nat.reduceMul, atL_ap, W_ldA, ldA, Nat.add_zero, asIdx_cast, decide_false, DS.read, Cells.take, eq_lt, eq_gt, Nat.reduceLT, Nat.lt_add_one, t4, t5, t6, t7, t8, g8, w8, G8, gq8, lq8, show S.next < S8.next by omega, show ¬ q = S.next by omega, e0, w3, c3, hb, hgy, c4, show ¬ b = S.next by omega]
          obtain ⟨S9, hS9⟩ : ∃ S9 : DS, S9 = ((S8.upd S.next (.cells (.list [.int .i64 K, .int .i64 V]) false)).new (.cells (.list [.int .i64 K, .int .i64 V]) false)) := ⟨_, rfl⟩
          rw [← hS9]
          have X9 : Ext [S.next] S8 S9 := by rw [hS9]; exact (Ext.upd (.inl (by simp))).trans' Ext.new
          have n9 : S9.next = S8.next + 1 := by rw [hS9]; simp (maxSteps := 4000000) (maxDischargeDepth := 8) only [DS.upd_next, nextN]
          have g9 : S9.get S8.next = some (.cells (.list [.int .i64 K, .int .i64 V]) false) := by rw [hS9]; simp (maxSteps := 4000000) (maxDischargeDepth := 8) only [DS.upd_next, get_new_at, DS.upd_good, G8]
          have G9 := X9.good G8
          have sl9 := sl8.keep X9 (fun k hk => by have := hwS k hk; simp; omega)
          have hw9 : SlV S9 2 (.slice (some ⟨S8.next, 0, none⟩) 1 1) (entV [(K, V)]) := .inr ⟨S8.next, 0, none, 1, rfl, by unfold DS.read; rw [g9]; rfl⟩
          have hlen : (entV l).length + (entV [(K, V)]).length ≤ 4097 := by rw [entV_len, entV_len]; simp; omega
          refine W.mono (appV_ok sl9 hw9 (entV_ok _) (entV_ok [(K, V)]) G9 (by omega) (by omega)) ?_
          rintro ⟨w10, S10⟩ ⟨sl10, X10, b10⟩
          simp only at sl10 X10 b10
          have hcat : entV l ++ entV [(K, V)] = entV (l ++ [(K, V)]) := by unfold entV; rw [List.map_append]
          rw [hcat] at sl10
          have le10 := X10.le
          have G10 := X10.good G9
          have gq10 := X10.keep (X9.keep gq8 (by simp; omega)) hqw
          have wq10 := X10.wrs (X9.wrs (X8'.wrs wqS))
          obtain ⟨a10, h10⟩ := sl10.shape
          subst h10
          have fr10 : ∀ k, k ∈ blk (.slice a10 (entV (l ++ [(K, V)])).length (entV (l ++ [(K, V)])).length) → S0.next ≤ k := fun k hk => by
            rcases b10 k hk with h | h
            · exact hfr k h
            · omega
          have U : ∀ o, Ext [q] S10 (S10.upd q o) := fun o => Ext.upd (.inl (by simp))
          have w11 : dwrap .i64 ((l.length : Int) + 1) = ((l.length + 1 : Nat) : Int) := by rw [dwrap_in (by omega) (by omega)]; omega
          simp (maxSteps := 4000000) (maxDischargeDepth := 8) only [WC_region, contS_normal, contB_normal, contR_ap, contL_normal, WO_nil, WO_pp, contO_ap, atS_ap, atD_ap, W_some, W_mv, W_bin, W_nilck, W_fadr, W_st, dpure, dbin, dint, ev_tmp, ev_const, putT_some, putT_none, get_put_eq, get_put_ne, not_false_eq_true, Option.getD_some, Nat.zero_add, Nat.reduceAdd, st_wr, cells_slice, List.length_cons, List.length_nil, allOne, oneCellD, Bool.and_self, Bool.and_true, Nat.beq_eq, Nat.ble_eq, Nat.reduceLeDiff, if_true, DS.wrC, Cells.size, Cells.fillFrom, Cells.set, setN, Nat.add_zero, eq_lt, eq_gt, Nat.reduceLT, Nat.lt_add_one, t4, t5, t6, t7, t8, gq10, wq10, w11]
          have hI8 : ∀ k, k ∈ blk bv8 → k < S.next := fun k hk => hb6 k (b8 k hk)
          refine ⟨n, by omega, ⟨l ++ [(K, V)], st8, _, bv8, false, by simp; omega, rfl, ?_, by rw [DS.upd_get_self, gq10]; rfl, sl10.keep (U _) (fun k hk e => by have := fr10 k hk; have e := List.mem_singleton.1 e; omega), fr10, ?_, fun k hk => b1 k (b6 k (b8 k hk)), ?_, (U _).good G10, by rw [hk8, hk6]; exact (hBs.drop k6).drop k8, by rw [hk8, hk6]; simp; omega, ?_, ?_⟩⟩
          · simp (maxSteps := 4000000) (maxDischargeDepth := 8) only [get_put_eq, get_put_ne, not_false_eq_true, Nat.zero_add, List.length_cons, List.length_nil, Bool.and_self, and_self, List.length_append, eq_lt, Nat.reduceLT, Nat.lt_add_one, t4, t5, t6, t7, t8]
          · refine (((I8.keep X9 (by simp; omega) (fun k hk => by have := hI8 k hk; simp; omega)).keep X10 (fun h => by have := hfr _ h; omega) (fun k hk h => hIw k hk h))).keep (U _) (by simp; omega) (fun k hk e => ?_)
            have e := List.mem_singleton.1 e
            exact hbq k (b1 k (b6 k (b8 k hk))) e
          · have z1 : Ext [r, q] S0 S8 := X.trans' (X8'.weaken (by simp))
            have z2 : Ext [r, q] S0 S9 := z1.trans X9 (by simp; omega)
            have z3 : Ext [r, q] S0 S10 := z2.trans X10 fun k hk => .inr (hfr k hk)
            exact z3.trans' ((U _).weaken (by simp))
          · rw [← htot, rdLoop, if_neg (by rw [hst]; simp), hrdE]
          · exact hok'
theorem RUnpack_ok (hv : SlR s bv bs) (hB : IsB bs) (hl : bs.length ≤ 1048576) (hG : s.Good) :
    W (dcall E (d + 5) (.func (.func 16) #[] #[]) [bv] s) fun p => Ext [] s p.2 ∧ ((¬ GoodS bs ∧ p.1 = .tuple #[.pointer none, .int .i64 10]) ∨
      (GoodS bs ∧ ∃ q w, p.1 = .tuple #[.pointer (some ⟨q, 0, none⟩), .int .i64 0] ∧ RefS p.2 q w (rdSt (bs, false)).1.2 (rdSt (bs, false)).1.1 ∧ ∀ k, k ∈ q :: blk w → s.next ≤ k)) := by
  have hlf := hR.lf
  have hvl := hv.lt
  obtain ⟨ba, bc, hbv⟩ := hv.len
  refine W_cps fun Q hQ => ?_
  rw [W_enter0 hR.iUp (show E.fn 16 = some dUx from by rw [← dUx_eq]; exact hR.fUp) rfl]
  subst hbv
  simp (maxSteps := 4000000) (maxDischargeDepth := 8) only [WC_seq, WC_region, contS_normal, contR_ap, WO_nil, WO_pp, contO_ap, atG_ap, W_some, W_mv, W_build, W_box, W_call, ev_tmp, ev_const, ev_func, putT_some, get_put_eq, get_put_ne, not_false_eq_true, ofList_get, List.getElem?_cons_zero, Option.getD_some, List.map_cons, List.map_nil, Nat.zero_add, Nat.reduceAdd, cells_slice, cells_agg, List.length_cons, List.length_nil, Bool.and_self, Bool.and_eq_true, Nat.beq_eq, Nat.ble_eq, Nat.reduceLeDiff, and_self, if_true, fillParts, List.take_zero, List.drop_succ_cons, List.drop_zero, List.nil_append, List.cons_append, pp, pv, pw, pg, eq_lt, Nat.succ_pos, dUx, hG]
  obtain ⟨S1, hS1⟩ : ∃ S1 : DS, S1 = s.new (.cells (.list [.slice ba bs.length bc, .bool false]) false) := ⟨_, rfl⟩
  rw [← hS1]
  have X1 : ∀ F, Ext F s S1 := fun F => by rw [hS1]; exact Ext.new
  have n1 : S1.next = s.next + 1 := by rw [hS1]; rfl
  have gI : S1.get s.next = some (.cells (.list [.slice ba bs.length bc, .bool false]) false) := by rw [hS1]; exact DS.new_get_self hG
  have G1 := (X1 []).good hG
  have I1 : InAt S1 s.next (.slice ba bs.length bc) bs false := ⟨gI, (X1 []).wrs (hG _ (Nat.le_refl _)).2, hv.keep (X1 []) (by simp), fun h => by have := hvl _ h; omega⟩
  refine W.mono (rshort_ok hR (d := d) I1 G1 hB hl) ?_
  rintro ⟨v2, s2⟩ ⟨bv2, R2, I2, X2, b2⟩
  simp only at R2 I2 X2 b2
  have R2 : v2 = _ := R2
  subst R2
  obtain ⟨room, hroom⟩ : ∃ room, room = (rdN 2 65535 (bs, false)).1 := ⟨_, rfl⟩
  obtain ⟨st2, hst2⟩ : ∃ st2, st2 = (rdN 2 65535 (bs, false)).2 := ⟨_, rfl⟩
  have hrr := rdN_range (size := 2) (most := 65535) (bs, false) hB (by decide) (by decide)
  obtain ⟨k2, hk2⟩ := (rdN_ok 2 65535).suf (bs, false)
  rw [← hroom] at hrr ⊢
  rw [← hst2] at I2 hk2
  have hB2 : IsB st2.1 := by rw [hk2]; exact hB.drop k2
  have hl2 : st2.1.length ≤ bs.length := by rw [hk2]; simp
  have G2 := X2.good G1
  have le2 := X2.le
  simp (maxSteps := 4000000) (maxDischargeDepth := 8) only [WC_seq, WC_region, contS_normal, contR_ap, WO_nil, WO_pp, contO_ap, atG_ap, W_some, W_mv, W_build, W_box, W_call, ev_tmp, ev_func, putT_some, get_put_eq, get_put_ne, not_false_eq_true, Option.getD_some, List.map_cons, List.map_nil, Nat.zero_add, Nat.reduceAdd, cells_int, cells_agg, List.length_cons, List.length_nil, Bool.and_self, Bool.and_eq_true, Nat.beq_eq, Nat.ble_eq, Nat.le_refl, and_self, if_true, fillParts, List.take_zero, List.take_succ_cons, List.drop_succ_cons, List.nil_append, List.cons_append, List.drop_nil, List.append_nil, eq_lt, Nat.reduceLT, Nat.lt_add_one, G2]
  obtain ⟨S3, hS3⟩ : ∃ S3 : DS, S3 = s2.new (.cells (.list [.slice none 0 0, .int .i64 room]) false) := ⟨_, rfl⟩
  rw [← hS3]
  have X3 : ∀ F, Ext F s2 S3 := fun F => by rw [hS3]; exact Ext.new
  have n3 : S3.next = s2.next + 1 := by rw [hS3]; rfl
  have gq3 : S3.get s2.next = some (.cells (.list [.slice none 0 0, .int .i64 room]) false) := by rw [hS3]; exact DS.new_get_self G2
  have G3 := (X3 []).good G2
  have wq3 : S3.wr s2.next = true := (X3 []).wrs (G2 _ (Nat.le_refl _)).2
  have I3 := I2.keep (X3 []) (by simp) (by simp)
  refine W.mono (rmany_ok hR (d := d) I3 G3 hB2 (by omega)) ?_
  rintro ⟨v4, s4⟩ ⟨bv4, R4, I4, X4, b4⟩
  simp only at R4 I4 X4 b4
  have R4 : v4 = _ := R4
  subst R4
  have hst2E : (st2.1, st2.2) = st2 := rfl
  rw [hst2E] at I4 ⊢
  have hrg := rdN_range (size := 2) (most := 4096) st2 hB2 (by decide) (by decide)
  obtain ⟨k4, hk4⟩ := (rdN_ok 2 4096).suf st2
  obtain ⟨st4, hst4⟩ : ∃ st4, st4 = (rdN 2 4096 st2).2 := ⟨_, rfl⟩
  obtain ⟨N, hN⟩ : ∃ N : Nat, ((N : Nat) : Int) = (rdN 2 4096 st2).1 := ⟨(rdN 2 4096 st2).1.toNat, Int.toNat_of_nonneg hrg.1⟩
  have htot : rdLoop rdE N [] st4 = rdL rdE st2 := by
    unfold rdL
    rw [← hN, Int.toNat_natCast, hst4]
  have hrd : rdSt (bs, false) = ((room, (rdL rdE st2).1), (rdL rdE st2).2) := by
    rw [hroom, hst2]
    rfl
  have hGd : GoodS bs ↔ ((rdL rdE st2).2.2 = false ∧ (rdL rdE st2).2.1 = []) ∧ room ≤ 4096 ∧ ((rdL rdE st2).1.length : Int) ≤ room ∧ Rise (rdL rdE st2).1 := by unfold GoodS GoodR; rw [hrd]
  rw [← hN] at hrg ⊢
  rw [← hst4] at I4 hk4
  rw [hrd] at hQ
  have le4 := X4.le
  have G4 := X4.good G3
  have gq4 := X4.keep gq3 (by simp; omega)
  have wq4 := X4.wrs wq3
  have hlq := DS.get_lt' gq4
  have hbv4 : ∀ k, k ∈ blk bv4 → k < s.next := fun k hk => hvl k (b2 k (b4 k hk))
  have hQ' : ∀ p, (Ext [s.next, s2.next] s4 p.2 ∧ ((¬ ((rdL rdE st2).2.2 = false ∧ (rdL rdE st2).2.1 = [] ∧ room ≤ 4096 ∧ ((rdL rdE st2).1.length : Int) ≤ room ∧ Rise (rdL rdE st2).1) ∧ p.1 = .tuple #[.pointer none, .int .i64 10]) ∨
      (((rdL rdE st2).2.2 = false ∧ (rdL rdE st2).2.1 = [] ∧ room ≤ 4096 ∧ ((rdL rdE st2).1.length : Int) ≤ room ∧ Rise (rdL rdE st2).1) ∧ ∃ w, p.1 = .tuple #[.pointer (some ⟨s2.next, 0, none⟩), .int .i64 0] ∧ RefS p.2 s2.next w (rdL rdE st2).1 room ∧ ∀ k, k ∈ blk w → s4.next ≤ k))) → Q p := by
    rintro p ⟨Xp, hp⟩
    refine hQ p ⟨((((X1 []).trans X2 (by simp)).trans' (X3 [])).trans X4 (by simp)).trans Xp (by simp; omega), ?_⟩
    rcases hp with ⟨h1, h2⟩ | ⟨h1, w, h2, h3, h4⟩
    · exact .inl ⟨fun h => h1 ⟨(hGd.1 h).1.1, (hGd.1 h).1.2, (hGd.1 h).2⟩, h2⟩
    · refine .inr ⟨hGd.2 ⟨⟨h1.1, h1.2.1⟩, h1.2.2⟩, _, w, h2, h3, fun k hk => ?_⟩
      rcases List.mem_cons.1 hk with rfl | hk
      · omega
      · have := h4 k hk
        omega
  have key := fun (okb : Bool) (t : PT Value) => rupTail hR (d := d) (t := t) (okb := okb) (Q := Q) (B := bs.length) gq4 wq4 I4 (by omega) (fun k hk => by have := hbv4 k hk; omega) G4 (by rw [hk4]; exact hB2.drop k4) (by rw [hk4]; simp; omega) hl (by omega) htot
  by_cases c1 : room ≤ 4096
  · by_cases c2 : (N : Int) ≤ room
    · simp (maxSteps := 4000000) (maxDischargeDepth := 8) only [WC_seq, WC_region, contS_normal, contR_ap, WO_nil, WO_pp, WO_g, gateO_tt, contO_ap, atS_ap, W_some, W_mv, W_pick, W_bin, W_nilck, W_fadr, W_ld, dpure, dbin, dint, ev_tmp, ev_const, putT_some, get_put_eq, get_put_ne, not_false_eq_true, Option.getD_some, ldV_at, Cells.get, getN, Nat.zero_add, if_true, decide_true, eq_lt, Nat.reduceLT, Nat.lt_add_one, gq4, c1, c2]
      exact key true _ ⟨fun _ => ⟨c1, c2⟩, fun _ => rfl⟩ (by simp (maxSteps := 4000000) only [get_put_eq, get_put_ne, Nat.reduceEqDiff, not_false_eq_true]) (by simp (maxSteps := 4000000) only [get_put_eq, get_put_ne, Nat.reduceEqDiff, not_false_eq_true]) (by simp (maxSteps := 4000000) only [get_put_eq, get_put_ne, Nat.reduceEqDiff, not_false_eq_true]) (by simp (maxSteps := 4000000) only [get_put_eq]) hQ'
    · simp (maxSteps := 4000000) (maxDischargeDepth := 8) only [WC_seq, WC_region, contS_normal, contR_ap, WO_nil, WO_pp, WO_g, gateO_tt, contO_ap, atS_ap, W_some, W_mv, W_pick, W_bin, W_nilck, W_fadr, W_ld, dpure, dbin, dint, ev_tmp, ev_const, putT_some, get_put_eq, get_put_ne, not_false_eq_true, Option.getD_some, ldV_at, Cells.get, getN, Nat.zero_add, if_true, decide_true, decide_false, eq_lt, Nat.reduceLT, Nat.lt_add_one, gq4, c1, c2]
      exact key false _ ⟨(fun h => by cases h), fun h => absurd h.2 c2⟩ (by simp (maxSteps := 4000000) only [get_put_eq, get_put_ne, Nat.reduceEqDiff, not_false_eq_true]) (by simp (maxSteps := 4000000) only [get_put_eq, get_put_ne, Nat.reduceEqDiff, not_false_eq_true]) (by simp (maxSteps := 4000000) only [get_put_eq, get_put_ne, Nat.reduceEqDiff, not_false_eq_true]) (by simp (maxSteps := 4000000) only [get_put_eq]) hQ'
  · simp (maxSteps := 4000000) (maxDischargeDepth := 8) only [WC_seq, WC_region, contS_normal, contR_ap, WO_nil, WO_pp, WO_g, gateO_ft, contO_ap, atS_ap, W_some, W_mv, W_pick, W_bin, W_nilck, W_fadr, W_ld, dpure, dbin, dint, ev_tmp, ev_const, putT_some, get_put_eq, get_put_ne, not_false_eq_true, Option.getD_some, ldV_at, Cells.get, getN, Nat.zero_add, if_true, if_false, Bool.false_eq_true, List.nil_append, decide_false, eq_lt, Nat.reduceLT, Nat.lt_add_one, gq4, c1]
    exact key false _ ⟨(fun h => by cases h), fun h => absurd h.1 c1⟩ (by simp (maxSteps := 4000000) only [get_put_eq, get_put_ne, Nat.reduceEqDiff, not_false_eq_true]) (by simp (maxSteps := 4000000) only [get_put_eq, get_put_ne, Nat.reduceEqDiff, not_false_eq_true]) (by simp (maxSteps := 4000000) only [get_put_eq, get_put_ne, Nat.reduceEqDiff, not_false_eq_true]) (by simp (maxSteps := 4000000) only [get_put_eq]) hQ'
end
end Go.Dx.StA
/- Is a store as it should be (made by tools/gen.py out of slk.t). -/
set_option linter.unusedVariables false
set_option linter.unusedSimpArgs false
set_option linter.unusedSectionVars false
set_option maxRecDepth 100000
set_option maxHeartbeats 4000000
namespace Go.Dx.StA
open Go Go.Dx Go.Dx.Search Go.Dx.St Go.Proofs.Ytnmajohhfcgddaa
def asgL : DCode := (.seq (.region [pv 7 33]) (.region [pv 8 34]))
def bodyL : DCode := (.block 1 (.seq (.seq (.region [pp 35 (.ld none (tm 6)), pp 36 (.ld none (tm 3)), pp 37 (.nilck (tm 36)), pp 38 (.fadr 0 (tm 37)), pp 39 (.ld none (tm 38)), pp 40 (.blenL (tm 39)), pp 41 (.bin .geq (tm 35) (tm 40)), pv 42 41, pg 43 (.ld none (tm 3)) 42 false, pg 44 (.nilck (tm 43)) 42 false, pg 45 (.fadr 0 (tm 44)) 42 false, pg 46 (.ld none (tm 45)) 42 false, pg 47 (.ld none (tm 6)) 42 false, pg 48 (.ixL 2 (tm 46) (tm 47)) 42 false, pg 49 (.fadr 0 (tm 48)) 42 false, pg 50 (.ld none (tm 49)) 42 false, pw 51 7 42 false, pg 52 (.bin .neq (tm 50) (tm 51)) 42 false, pp 53 (.pick (tm 42) (.const (.bool true)) (tm 52)), pv 54 53, pg 55 (.ld none (tm 3)) 54 false, pg 56 (.nilck (tm 55)) 54 false, pg 57 (.fadr 0 (tm 56)) 54 false, pg 58 (.ld none (tm 57)) 54 false, pg 59 (.ld none (tm 6)) 54 false, pg 60 (.ixL 2 (tm 58) (tm 59)) 54 false, pg 61 (.fadr 1 (tm 60)) 54 false, pg 62 (.ld none (tm 61)) 54 false, pw 63 8 54 false, pg 64 (.bin .neq (tm 62) (tm 63)) 54 false, pp 65 (.pick (tm 54) (.const (.bool true)) (tm 64))]) (.cond (tm 65) (.seq (.region [⟨none, .st 1 (tm 4) (.const (.bool false)), none, [], false⟩]) (.ret)) (.skip))) (.region [pp 66 (.ld none (tm 6)), pp 67 (.bin .add (tm 66) (.const (.int .i64 1))), ⟨none, .st 1 (tm 6) (tm 67), none, [], false⟩])))
structure LkFns (E : Env) : Prop where
  fLk : E.fn 17 = some d17
  iLk : E.intr 17 = none
  fRoom : E.fn 23 = some d23
  iRoom : E.intr 23 = none
  fr : ∀ d, CallFrame (dcall E d)
structure LkJ (U : DS) (y1 a : Nat) (tt : PT Value) (i : Nat) (S : DS) : Prop where
  gn : S.get (a + 3) = some (.cells (.list [.int .i64 (i : Int)]) false)
  xt : Ext [y1, a + 3] U S
  gy : S.get y1 = some (loopOb tt [33, 34] asgL bodyL)
section
variable {E : Env} (hF : Fns E) (hI : Its E) (hQf : LkFns E) {s : DS} {d : Nat} {p q : Nat} {kv vv w : Value} {L : List Ent} {room : Int}
include hF hI hQf
omit hF hI in
theorem room_ok {b : Nat} (cb : StAt s b kv vv L room) : dcall E (d + 1) (.func (.func 23) #[] #[]) [.pointer (some ⟨b, 0, none⟩)] s = some (.int .i64 room, s) := by
  have gp := cb.gp
  rw [← W_iff, W_enter0 hQf.iRoom hQf.fRoom rfl]
  simp (maxSteps := 4000000) only [WC_seq, WC_region, WC_cond, WC_skip, WC_ret, contS_normal, contR_ap, WO_nil, WO_pp, condC_false, contO_ap, atS_ap, atB_ap, W_some, W_mv, W_eq1, W_nilck, W_fadr, W_ld, dpure, eqOne, Ends_ret, ev_tmp, ev_const, putT_some, get_put_eq, get_put_ne, not_false_eq_true, ofList_get, List.getElem?_cons_zero, Option.getD_some, dresults, tupled, ldV_at, Cells.get, getN, Nat.zero_add, if_false, reduceCtorEq, Bool.not_false, Bool.false_eq_true, pp, pv, d23, gp]
theorem looks_ok (c : StAt s p kv vv L room) (cr : RefS s q w L room) (hG : s.Good) (hlL : L.length ≤ 5000) (hpq : ∀ k, k ∈ own p kv vv → k ≠ q) :
    W (dcall E (d + 3) (.func (.func 17) #[] #[]) [.pointer (some ⟨p, 0, none⟩), .pointer (some ⟨q, 0, none⟩)] s) fun r => r.1 = .bool true ∧ Ext [] s r.2 := by
  have hlf := hF.lf
  have hcl := c.lt
  have hel := entV_len L
  have hql := DS.get_lt' cr.gq
  have hwl := cr.sl.lt
  refine W_cps fun Q hQ => ?_
  rw [W_enter0 hQf.iLk hQf.fLk rfl]
  have gq := cr.gq
  obtain ⟨wa, hws⟩ := cr.sl.shape
  rw [hel] at hws
  have gq' := gq
  rw [hws] at gq'
  obtain ⟨S1, hS1⟩ : ∃ S1 : DS, S1 = ((s.new (.cells (.list [.pointer (some ⟨q, 0, none⟩)]) false)).new (.cells (.list [.bool false]) false)).new (.cells (.list [.pointer (some ⟨p, 0, none⟩)]) false) := ⟨_, rfl⟩
  have X1 : Ext [] s S1 := by rw [hS1]; exact Ext.new.trans' (Ext.new.trans' Ext.new)
  have hG1 := X1.good hG
  have n1 : S1.next = s.next + 3 := by rw [hS1]; simp (maxSteps := 4000000) (maxDischargeDepth := 8) only [Nat.reduceAdd, nextN, Nat.add_assoc]
  have q3 : S1.get s.next = some (.cells (.list [.pointer (some ⟨q, 0, none⟩)]) false) := by rw [hS1]; simp (maxSteps := 4000000) (maxDischargeDepth := 8) only [Nat.reduceAdd, nextN, get_new_at, get_new_ne, good_new, lt_add_s, Nat.add_assoc, Nat.lt_add_one, Nat.succ_pos, hG]
  have q4 : S1.get (s.next + 1) = some (.cells (.list [.bool false]) false) := by rw [hS1]; simp (maxSteps := 4000000) (maxDischargeDepth := 8) only [Nat.reduceAdd, nextN, get_new_at, get_new_ne, good_new, Nat.add_assoc, Nat.lt_add_one, hG]
  have qc : S1.get (s.next + 2) = some (.cells (.list [.pointer (some ⟨p, 0, none⟩)]) false) := by rw [hS1]; simp (maxSteps := 4000000) (maxDischargeDepth := 8) only [Nat.reduceAdd, nextN, get_new_at, good_new, Nat.add_assoc, hG]
  have c1 := c.keep X1 (by simp)
  have cr1 := cr.keep X1 (by simp) (by simp)
  simp (maxSteps := 4000000) (maxDischargeDepth := 8) only [WC_seq, WC_region, contS_normal, contR_ap, WO_nil, WO_pp, WO_pn, WO_g, WO_hn, gateO_ff, contO_ap, contN_ap, atS_ap, atB_ap, W_some, W_mv, W_eq1, W_nilck, W_fadr, W_blenL, W_ld, W_alloc, W_box, W_call, dpure, eqOne, ev_tmp, ev_const, ev_func, putT_some, get_put_eq, get_put_ne, not_false_eq_true, ofList_get, List.getElem?_cons_zero, List.getElem?_cons_succ, Option.getD_some, List.map_cons, List.map_nil, ldV_at, Cells.get, getN, Nat.reduceAdd, cells_ptr, if_false, Bool.not_false, Bool.false_eq_true, List.nil_append, List.cons_append, pp, pv, pw, pg, nextN, Nat.add_zero, foot, get_new_at, get_new_ne, good_new, eq_lt, lt_add_r, lt_add_s, Nat.add_assoc, Nat.reduceLT, Nat.lt_add_one, Nat.succ_pos, d17, hG, All_ok hI, hql, gq']
  rw [← hS1]
  refine W.intro (Len_ok hF (d := d + 1) (c1.mask fun k hk => ?_)) ?_
  · have h1 := hcl k hk
    have h2 := hpq k hk
    exact ⟨by (simp only [hidden, shielded, noteAt, memN, Bool.or_false, Bool.or_eq_false_iff, Bool.and_eq_false_iff, bleF, bltF, beqF, true_and, and_true, true_or, or_true] <;> omega), by (simp only [hidden, shielded, noteAt, memN, Bool.or_false, Bool.or_eq_false_iff, Bool.and_eq_false_iff, bleF, bltF, beqF, true_and, and_true, true_or, or_true] <;> omega)⟩
  have gq1 := cr1.gq
  rw [hws] at gq1
  simp (maxSteps := 4000000) only [WO_pn, WO_g, WO_hn, gateO_ff, contN_ap, contHN_ap, atS_ap, W_some, W_mv, W_pick, W_bin, W_nilck, W_fadr, W_ld, W_call, dpure, dbin, dint, ev_tmp, ev_const, ev_func, putT_some, get_put_eq, get_put_ne, Nat.reduceEqDiff, not_false_eq_true, ofList_get, List.getElem?_cons_zero, Option.getD_some, List.map_cons, List.map_nil, ldV_at, Cells.get, getN, Nat.zero_add, if_true, if_false, reduceCtorEq, Bool.not_true, Bool.false_eq_true, List.nil_append, List.cons_append, nextM, unmask_mask, decide_true, foot, q3, gq1]
  refine W.intro (room_ok hQf (d := d + 1) (c1.mask fun k hk => ?_)) ?_
  · have h1 := hcl k hk
    have h2 := hpq k hk
    exact ⟨by (simp only [hidden, shielded, noteAt, memN, Bool.or_false, Bool.or_eq_false_iff, Bool.and_eq_false_iff, bleF, bltF, beqF, true_and, and_true, true_or, or_true] <;> omega), by (simp only [hidden, shielded, noteAt, memN, Bool.or_false, Bool.or_eq_false_iff, Bool.and_eq_false_iff, bleF, bltF, beqF, true_and, and_true, true_or, or_true] <;> omega)⟩
  simp (maxSteps := 4000000) (maxDischargeDepth := 8) only [WC_seq, WC_region, WC_cond, WC_block, WC_skip, contS_normal, contR_ap, WO_nil, WO_pp, WO_pn, WO_g, gateO_ff, condC_false, contO_ap, contN_ap, contHN_ap, atS_ap, atD_ap, W_some, W_mv, W_pick, W_bin, W_st, W_alloc, dpure, dbin, dint, ev_tmp, ev_const, putT_some, putT_none, get_put_eq, get_put_ne, not_false_eq_true, Option.getD_some, Nat.zero_add, st_wr, cells_int, List.length_cons, List.length_nil, allOne, oneCellD, Bool.and_self, Bool.and_true, Nat.beq_eq, Nat.ble_eq, Nat.le_refl, if_true, if_false, Bool.not_true, Bool.false_eq_true, DS.wrC, Cells.size, Cells.fillFrom, Cells.set, setN, List.nil_append, List.cons_append, wrN, nextM, unmask_mask, decide_true, foot, get_new_at, good_new, good_at, eq_lt, eq_gt, Nat.reduceLT, Nat.lt_add_one, hG1]
  obtain ⟨S2, hS2⟩ : ∃ S2 : DS, S2 = (S1.new (.cells (.list [.int .i64 0]) false)).upd S1.next (.cells (.list [.int .i64 0]) false) := ⟨_, rfl⟩
  rw [← hS2]
  have X2 : Ext [] S1 S2 := by rw [hS2]; exact (Ext.new (F := [])).trans (Ext.upd (F := [S1.next]) (.inl (by simp))) (by simp)
  have hG2 := X2.good hG1
  have n2 : S2.next = s.next + 4 := by rw [hS2]; simp (maxSteps := 4000000) (maxDischargeDepth := 8) only [Nat.reduceAdd, DS.upd_next, nextN, Nat.add_assoc, n1]
  have q6 : S2.get (s.next + 3) = some (.cells (.list [.int .i64 0]) false) := by rw [hS2, ← n1]; simp (maxSteps := 4000000) (maxDischargeDepth := 8) only [DS.upd_get_self, Option.map_some, get_new_at, hG1]
  clear hS2
  have X02 := X1.trans' X2
  refine WC_rf (by simp (maxSteps := 4000000) only [ev_tmp, get_put_eq, Option.getD_some]; rfl) ?_
  generalize hO1 : loopOb _ _ _ _ = O1
  obtain ⟨tt, hO1', t3, t4, t6⟩ : ∃ tt, O1 = loopOb tt [33, 34] asgL bodyL ∧ tt.get 3 = some (.pointer (some ⟨s.next, 0, none⟩)) ∧ tt.get 4 = some (.pointer (some ⟨s.next + 1, 0, none⟩)) ∧ tt.get 6 = some (.pointer (some ⟨s.next + 3, 0, none⟩)) := ⟨_, hO1.symm, by simp (maxSteps := 4000000) only [get_put_eq, get_put_ne, Nat.reduceEqDiff, not_false_eq_true], by simp (maxSteps := 4000000) only [get_put_eq, get_put_ne, Nat.reduceEqDiff, not_false_eq_true], by simp (maxSteps := 4000000) only [get_put_eq, get_put_ne, Nat.reduceEqDiff, not_false_eq_true, n1]⟩
  have XU : Ext [] S2 ((S2.new .dfr).new O1) := Ext.new.trans' Ext.new
  have hGU := XU.good hG2
  have gy : ((S2.new .dfr).new O1).get (S2.next + 1) = some O1 := by simp (maxSteps := 4000000) (maxDischargeDepth := 8) only [nextN, get_new_at, good_new, hG2]
  have gd : ((S2.new .dfr).new O1).get S2.next = some .dfr := by simp (maxSteps := 4000000) (maxDischargeDepth := 8) only [nextN, get_new_at, get_new_ne, good_new, Nat.lt_add_one, hG2]
  have nU : ((S2.new .dfr).new O1).next = S2.next + 2 := by simp (maxSteps := 4000000) (maxDischargeDepth := 8) only [Nat.reduceAdd, nextN, Nat.add_assoc]
  have X0U := X02.trans' XU
  obtain ⟨U, hU⟩ : ∃ U : DS, U = (S2.new .dfr).new O1 := ⟨_, rfl⟩
  rw [← hU] at XU hGU gy gd nU X0U ⊢
  clear hU
  have X1U := X2.trans' XU
  have wU : ∀ k, s.next ≤ k → U.wr k = true := fun k hk => X0U.wrs (hG k hk).2
  have u3 := X1U.keep q3 (by simp)
  have u4 := X1U.keep q4 (by simp)
  have uc := X1U.keep qc (by simp)
  have u6 := XU.keep q6 (by simp)
  have cU := c.keep X0U (by simp)
  have crU := cr.keep X0U (by simp) (by simp)
  have hno : ∀ k, k < s.next → k ∉ [S2.next + 1, s.next + 3] := fun k hk => by simp; omega
  refine W.mono (all_iter hI (d := d + 1) (p := p) (kv := kv) (vv := vv) (L := L) (room := room) (c := s.next + 2) (J := LkJ U (S2.next + 1) s.next tt) (Stop := fun _ => False) (fun i S hj => ?_) (fun i x S hx hj => ?_) ?_ (by omega)) ?_
  · exact ⟨cU.keep hj.xt (fun k hk => hno k (hcl k hk)), hj.xt.keep uc (by simp; omega)⟩
  · obtain ⟨gn, X, gyS⟩ := hj
    have hGS := X.good hGU
    have hil := (List.getElem?_eq_some_iff.1 hx).1
    have s3 := X.keep u3 (by simp; omega)
    have crS := crU.keep X (hno q hql) (fun k hk => hno k (hwl k hk))
    have gqS := crS.gq
    obtain ⟨b, sp, hwb, hsp, hgb, hww⟩ := crS.sl.at (fun e => by rw [e] at hel; simp at hel; omega)
    rw [hel] at hwb
    rw [hwb] at gqS
    have hbl : b < s.next := hwl b (by rw [hwb]; simp [blk])
    have hg0 := entV_get0 hx
    have hg1 := entV_get1 hx
    have hwS : ∀ k, s.next ≤ k → S.wr k = true := fun k hk => X.wrs (wU k hk)
    have hwn := hwS (s.next + 3) (by omega)
    have e1 : ¬ (L.length : Int) ≤ (i : Int) := by omega
    have w1 : dwrap .i64 ((i : Int) + 1) = ((i + 1 : Nat) : Int) := by rw [dwrap_in (by omega) (by omega)]; omega
    refine W_yield gyS rfl ?_
    simp (maxSteps := 4000000) only [WC_seq, WC_region, contS_normal, contR_ap, WO_nil, WO_pp, contO_ap, W_mv, ev_tmp, putT_some, get_put_eq, get_put_ne, Nat.reduceEqDiff, not_false_eq_true, Option.getD_some, pv, setParams_nil, setParams_cons, asgL]
    refine contY_ap gyS (hwS _ (by omega)) ?_
    obtain ⟨Sb, hSb⟩ : ∃ Sb : DS, Sb = S.upd (S2.next + 1) (.loop .busy .normal tt [33, 34] asgL bodyL) := ⟨_, rfl⟩
    have Xb : Ext [S2.next + 1] S Sb := by rw [hSb]; exact Ext.upd (.inl (by simp))
    have gby : Sb.get (S2.next + 1) = some (.loop .busy .normal tt [33, 34] asgL bodyL) := by rw [hSb, DS.upd_get_self, gyS]; rfl
    show WC _ _ _ bodyL ⟨_, S.upd (S2.next + 1) (.loop .busy .normal tt [33, 34] asgL bodyL), []⟩ _
    rw [← hSb]
    clear hSb
    have b3 := Xb.keep s3 (by simp; omega)
    have bn := Xb.keep gn (by simp; omega)
    have bq := Xb.keep gqS (by simp; omega)
    have bb := Xb.keep hgb (by simp; omega)
    have bw := Xb.wrs hwn
    have hx1 : (x.1 = x.1) = True := eq_true rfl
    have hx2 : (x.2 = x.2) = True := eq_true rfl
    simp (maxSteps := 4000000) only [WC_seq, WC_region, WC_cond, WC_block, WC_skip, contS_normal, contB_normal, contR_ap, WO_nil, WO_pp, WO_g, gateO_ff, condC_false, contO_ap, atS_ap, atD_ap, W_some, W_mv, W_pick, W_bin, W_nilck, W_fadr, W_ixL, W_blenL, W_ld, W_st, dpure, dbin, dint, ev_tmp, ev_const, putT_some, putT_none, get_put_eq, get_put_ne, Nat.reduceEqDiff, not_false_eq_true, Option.getD_some, ldV_at, Cells.get, getN, Nat.zero_add, st_wr, cells_int, List.length_cons, List.length_nil, allOne, oneCellD, Bool.and_self, Bool.and_true, Nat.beq_eq, Nat.ble_eq, Nat.blt_eq, Nat.le_refl, if_true, if_false, Bool.not_true, Bool.false_eq_true, DS.wrC, Cells.size, Cells.fillFrom, Cells.set, setN, pp, pv, pw, pg, Nat.add_zero, asIdx_cast, decide_true, decide_false, bodyL, t3, t4, t6, b3, bn, bq, bb, hil, e1, hg0, hg1, w1, bw, hx1, hx2]
    have X4 : Ext [s.next + 3] Sb (Sb.upd (s.next + 3) (.cells (.list [.int .i64 ((i + 1 : Nat) : Int)]) false)) := Ext.upd (.inl (by simp))
    have g4y := X4.keep gby (by simp; omega)
    refine contZ_ap g4y (X4.wrs (Xb.wrs (hwS _ (by omega)))) (.inl ⟨rfl, ?_⟩)
    have X6 : Ext [S2.next + 1] (Sb.upd (s.next + 3) (.cells (.list [.int .i64 ((i + 1 : Nat) : Int)]) false)) ((Sb.upd (s.next + 3) (.cells (.list [.int .i64 ((i + 1 : Nat) : Int)]) false)).upd (S2.next + 1) (.loop .ready .normal tt [33, 34] asgL bodyL)) := Ext.upd (.inl (by simp))
    refine ⟨X6.keep (by rw [DS.upd_get_self, bn]; rfl) (by simp; omega), ((X.trans' (Xb.weaken (by simp))).trans' (X4.weaken (by simp))).trans' (X6.weaken (by simp)), ?_⟩
    show (DS.upd _ (S2.next + 1) _).get (S2.next + 1) = _
    rw [DS.upd_get_self, g4y]; rfl
  · exact ⟨u6, .refl, by rw [gy, hO1']⟩
  rintro ⟨v3, s3⟩ h
  have hj := h.resolve_right id
  obtain ⟨gn, X3, gy3⟩ := hj
  simp only at gn X3 gy3
  refine contF_ap (gy3.trans rfl) (.inl rfl) (X3.wrs (wU _ (by omega))) ?_
  generalize hOE : DObj.loop .exhausted .normal _ _ _ _ = OE
  have X4 : Ext [S2.next + 1] s3 (s3.upd (S2.next + 1) OE) := Ext.upd (.inl (by simp))
  obtain ⟨S4, hS4⟩ : ∃ S4 : DS, S4 = s3.upd (S2.next + 1) OE := ⟨_, rfl⟩
  rw [← hS4] at X4 ⊢
  clear hS4
  have r3 := X4.keep (X3.keep u3 (by simp; omega)) (by simp; omega)
  have r4 := X4.keep (X3.keep u4 (by simp; omega)) (by simp; omega)
  have rn := X4.keep gn (by simp; omega)
  have rd := X4.keep (X3.keep gd (by simp; omega)) (by simp)
  have hw4 : ∀ j, S4.wr (s.next + j) = true := fun j => X4.wrs (X3.wrs (wU _ (by omega)))
  have rq := X4.keep ((crU.keep X3 (hno q hql) (fun k hk => hno k (hwl k hk))).gq) (by simp; omega)
  rw [hws] at rq
  have hqq : ((L.length : Int) = (L.length : Int)) = True := eq_true rfl
  simp (maxSteps := 4000000) only [WC_seq, WC_region, WC_ret, contS_normal, contB_normal, contR_ap, WO_nil, WO_pp, contO_ap, atS_ap, atD_ap, W_some, W_bin, W_nilck, W_fadr, W_blenL, W_ld, W_st, dpure, dbin, dint, ev_tmp, putT_some, putT_none, get_put_eq, get_put_ne, Nat.reduceEqDiff, not_false_eq_true, Option.getD_some, ldV_at, Cells.get, getN, Nat.zero_add, st_wr, cells_bool, List.length_cons, List.length_nil, allOne, oneCellD, Bool.and_self, Bool.and_true, Nat.beq_eq, Nat.ble_eq, Nat.le_refl, if_true, DS.wrC, Cells.size, Cells.fillFrom, Cells.set, setN, Nat.add_zero, decide_true, r3, r4, rn, rq, hw4, hqq, n1]
  rw [Ends_ret1 (by rw [DS.upd_get_ne (by omega)]; exact rd) (by rw [DS.upd_wr]; exact X4.wrs (X3.wrs (wU _ (by omega))))]
  have m4 : ((S4.upd (s.next + 1) (.cells (.list [.bool true]) false)).rid S2.next).get (s.next + 1) = some (.cells (.list [.bool true]) false) := by
    rw [DS.rid_get_ne (by omega), DS.upd_get_self, r4]; rfl
  simp (maxSteps := 4000000) only [W_some, dread, ev_tmp, get_put_eq, get_put_ne, Nat.reduceEqDiff, not_false_eq_true, Option.getD_some, dresults, tupled, Cells.get, getN, m4]
  refine hQ _ ⟨rfl, ?_⟩
  have y1 : Ext [s.next + 1, S2.next] S4 (S4.upd (s.next + 1) (.cells (.list [.bool true]) false)) := Ext.upd (.inl (by simp))
  have y2 : Ext [s.next + 1, S2.next] (S4.upd (s.next + 1) (.cells (.list [.bool true]) false)) ((S4.upd (s.next + 1) (.cells (.list [.bool true]) false)).rid S2.next) := Ext.rid (.inl (by simp))
  exact ((X0U.trans X3 (by simp; omega)).trans X4 (by simp; omega)).trans (y1.trans' y2) (by simp; omega)
end
end Go.Dx.StA
/- StoreUnpacks: the law's walk (made by tools/gen.py out of upl.t). -/
set_option linter.unusedVariables false
set_option linter.unusedSimpArgs false
set_option linter.unusedSectionVars false
set_option maxRecDepth 100000
set_option maxHeartbeats 4000000
namespace Go.Dx.StA
open Go Go.Dx Go.Dx.Search Go.Dx.St Go.Proofs.Ytnmajohhfcgddaa

def lastU : DCode := (.seq (.region [⟨some 25, .call (.func 10) [], none, [], true⟩, ⟨some 26, .mv (tm 25), none, [], true⟩, ⟨some 27, .mv (tm 5), some (26, true), [], true⟩, ⟨some 28, .mv (tm 7), some (26, true), [], true⟩, ⟨some 29, .bin .eql (tm 27) (tm 28), some (26, true), [], true⟩, ⟨some 30, .pick (tm 26) (tm 29) (.const (.bool false)), none, [], true⟩, ⟨some 31, .mv (tm 30), none, [], true⟩, ⟨some 32, .mv (tm 4), some (31, true), [], true⟩, ⟨some 33, .eq false (.one .ptr) (tm 32) (.const (.pointer none)), some (31, true), [], true⟩, ⟨some 34, .mv (tm 6), some (31, true), [], true⟩, ⟨some 35, .eq false (.one .ptr) (tm 34) (.const (.pointer none)), some (31, true), [], true⟩, ⟨some 36, .eq false (.one .bool) (tm 33) (tm 35), some (31, true), [], true⟩, ⟨some 37, .pick (tm 31) (tm 36) (.const (.bool false)), none, [], true⟩, ⟨some 38, .mv (tm 37), none, [], true⟩, ⟨some 39, .mv (tm 3), some (38, true), [], true⟩, ⟨some 40, .cvToStr (tm 39), some (38, true), [], true⟩, ⟨some 41, .mv (tm 0), some (38, true), [], true⟩, ⟨some 42, .cvToStr (tm 41), some (38, true), [], true⟩, ⟨some 43, .bin .eql (tm 40) (tm 42), some (38, true), [], true⟩, ⟨some 44, .pick (tm 38) (tm 43) (.const (.bool false)), none, [], true⟩, ⟨some 45, .mv (tm 44), none, [], true⟩, ⟨some 46, .mv (tm 6), some (45, true), [], true⟩, ⟨some 47, .eq false (.one .ptr) (tm 46) (.const (.pointer none)), some (45, true), [], true⟩, ⟨some 48, .mv (tm 47), some (45, true), [], true⟩, ⟨some 49, .mv (tm 4), some (48, false), [], true⟩, ⟨some 50, .mv (tm 6), some (48, false), [], true⟩, ⟨some 51, .call (.func 17) [.tmp 49, .tmp 50], some (48, false), [], true⟩, ⟨some 52, .mv (tm 51), some (48, false), [], true⟩, ⟨some 53, .mv (tm 4), some (52, true), [], true⟩, ⟨some 56, .mv (tm 0), some (52, true), [], true⟩, ⟨some 57, .cvToStr (tm 56), some (52, true), [], true⟩, ⟨some 54, .call (.func 18) [.tmp 53], some (52, true), [30], true⟩, ⟨some 55, .cvToStr (tm 54), some (52, true), [], true⟩, ⟨some 58, .bin .eql (tm 55) (tm 57), some (52, true), [], true⟩, ⟨some 59, .pick (tm 52) (tm 58) (.const (.bool false)), some (48, false), [], true⟩, ⟨some 60, .pick (tm 48) (.const (.bool true)) (tm 59), some (45, true), [], true⟩, ⟨some 61, .pick (tm 45) (tm 60) (.const (.bool false)), none, [], true⟩, ⟨some 2, .mv (tm 61), none, [], true⟩]) (.ret))
def d4x : DFunc := { ntmps := 62, results := [.tmp 2], body := .seq (.region [pp 2 (.mv (.const (.bool false)))]) (.seq (.seq (.region [pv 8 0, pp 9 (.blenL (tm 8)), pp 10 (.bin .gtr (tm 9) (.const (.int .i64 131072)))]) (.cond (tm 10) (.seq (.region [pp 11 (.call (.func 10) []), pv 2 11]) (.ret)) (.skip))) (.seq (.region [pp 12 (.bslice 0 1 [.int .u8 0] []), pv 13 0, pp 14 (.bapp 1 1 (tm 12) (tm 13)), pv 3 14]) (.seq (.region [pv 16 3, pp 17 (.call (.func 15) [.tmp 16]), pv 15 17, pp 18 (.ext (tm 15) 0), pp 19 (.ext (tm 15) 1), pv 4 18, pv 5 19]) (.seq (.region [pv 21 0, pp 22 (.call (.func 16) [.tmp 21]), pv 20 22, pp 23 (.ext (tm 20) 0), pp 24 (.ext (tm 20) 1), pv 6 23, pv 7 24]) lastU)))) }
theorem d4x_eq : d4 = d4x := rfl
theorem SlX.toR {s : DS} {v : Value} {l : List Int} (h : SlX s 1 v (bytesV l)) : SlR s v l := by
  rcases h with ⟨rfl, h0⟩ | ⟨b, sp, rfl, h1, h2, h3⟩
  · exact .inl ⟨rfl, by simpa [bytesV] using h0⟩
  · refine .inr ⟨b, 0, sp, (bytesV l).length, by rw [bytesV_len], h1, by rw [bytesV_len]; exact Nat.le_refl _, ?_⟩
    unfold DS.read
    rw [h2]
    show (Cells.list (bytesV l).flatten).take 0 l.length = some (u8s l)
    rw [bytesV_rows, rowsV_flat]
    refine take_of (List.length_map ..) fun i hi => ?_
    rw [Nat.zero_add]
    show getN (u8s l) i = _
    rw [getN_eq]
theorem toBytes_u8 : ∀ r : List Int, toBytes (u8s r) = some (r.map fun n => UInt8.ofNat n.toNat)
  | [] => rfl
  | n :: r => by
    show (match toBytes (u8s r) with | some l => some (UInt8.ofNat n.toNat :: l) | none => none) = _
    rw [toBytes_u8 r]; rfl
theorem bytesEq_self (l : List UInt8) : bytesEq l l = true := by rw [bytesEq_eq]; exact beq_self_eq_true l
theorem dstr_self (bs : List Int) : dstr .eql ⟨⟨bs.map fun n => UInt8.ofNat n.toNat⟩⟩ ⟨⟨bs.map fun n => UInt8.ofNat n.toNat⟩⟩ = some (.bool true) := by
  show some (Value.bool (bytesEq _ _)) = _
  rw [bytesEq_self]
theorem packB_len (room : Int) (L : List Ent) : (packB room L).length = 4 + L.length * 16 := by
  show (leB room 2 ++ (leB L.length 2 ++ catE entB L)).length = _
  have h : ∀ L : List Ent, (catE entB L).length = L.length * 16 := fun L => by
    induction L with
    | nil => rfl
    | cons x l ih =>
      show (entB x ++ catE entB l).length = _
      rw [List.length_append, ih]
      show (leB x.1 8 ++ leB x.2 8).length + _ = _
      rw [List.length_append, leB_len, leB_len, List.length_cons]
      omega
  rw [List.length_append, List.length_append, leB_len, leB_len, h]
  omega
section
variable {E : Env} (hC : CFns E) (hG' : GFns E) (hP : PkFns E) (hU : UpFns E) (hR : RInFns E) (hF : Fns E) (hI : Its E) (hL : LkFns E) {s : DS} {d : Nat} {v0 : Value} {bs : List Int}
include hC hG' hP hU hR hF hI hL
theorem unpacksLaw (f4 : E.fn 4 = some d4x) (i4 : E.intr 4 = none) (h10 : E.intr 10 = some trueD) (hG : s.Good) (hv : SlR s v0 bs) (hB : IsB bs) (hl : (bs.length : Int) ≤ 9223372036854775807) :
    W (dcall E (d + 14) (.func (.func 4) #[] #[]) [v0] s) fun r => r.1 = .bool true := by
  have lv : ∀ dd s, dcall E (dd + 1) (.func (.func 10) #[] #[]) [] s = some (.bool true, s) := fun _ _ => intr_run h10 rfl
  have hlf := hC.lf
  rw [W_enter0 i4 f4 rfl]
  obtain ⟨va, vc, hvs⟩ := hv.len
  by_cases c0 : bs.length ≤ 131072
  case neg =>
    have e0 : (131072 : Int) < (bs.length : Int) := by omega
    subst hvs
    simp (maxSteps := 4000000) only [WC_seq, WC_region, WC_cond, WC_ret, contS_normal, contS_ret, contR_ap, WO_nil, WO_pp, condC_true, contO_ap, atS_ap, W_some, W_mv, W_bin, W_blenL, W_call, dpure, dbin, dint, Ends_ret, ev_tmp, ev_const, ev_func, putT_some, get_put_eq, get_put_ne, not_false_eq_true, ofList_get, List.getElem?_cons_zero, Option.getD_some, dresults, tupled, List.map_nil, if_true, reduceCtorEq, pp, pv, decide_true, d4x, e0, lv]
  have e0 : ¬ (131072 : Int) < (bs.length : Int) := by omega
  have hvl := hv.lt
  have hvw := hv.view
  rw [← bytesV_rows] at hvw
  subst hvs
  simp (maxSteps := 4000000) (maxDischargeDepth := 8) only [WC_seq, WC_region, WC_cond, WC_skip, contS_normal, contR_ap, WO_nil, WO_pp, condC_false, contO_ap, atS_ap, atL_ap, W_some, W_mv, W_bin, W_blenL, dpure, dbin, dint, ev_tmp, ev_const, putT_some, get_put_eq, get_put_ne, not_false_eq_true, ofList_get, List.getElem?_cons_zero, Option.getD_some, Nat.ble_eq, Nat.reduceLeDiff, if_true, fillParts, pp, pv, W_app, W_bslice, repeatZ, atL_ap, Nat.mul_one, decide_false, eq_lt, Nat.lt_add_one, Nat.succ_pos, d4x, e0, hG]
  obtain ⟨S1, hS1⟩ : ∃ S1 : DS, S1 = s.new (.cells (.list []) false) := ⟨_, rfl⟩
  rw [← hS1]
  have X1 : ∀ F, Ext F s S1 := fun F => by rw [hS1]; exact Ext.new
  have n1 : S1.next = s.next + 1 := by rw [hS1]; rfl
  have g1 : S1.get s.next = some (.cells (.list []) false) := by rw [hS1]; exact DS.new_get_self hG
  have hx : SlX S1 1 (.slice (some ⟨s.next, 0, none⟩) 0 0) [] := .inr ⟨s.next, none, rfl, .inl rfl, g1, (X1 []).wrs (hG _ (Nat.le_refl _)).2⟩
  have v1 := (hv.keep (X1 []) (by simp)).view
  rw [← bytesV_rows] at v1
  refine W.mono (appV_ok hx v1 ⟨(fun y hy => nomatch hy), (fun y hy => nomatch hy)⟩ (bytesV_ok _) ((X1 []).good hG) (by rw [bytesV_len]; simp; omega) (by rw [bytesV_len]; simp; omega)) ?_
  rintro ⟨ov, S2⟩ ⟨h2, X2, b2⟩
  simp only [List.nil_append] at h2 X2 b2
  have XS : Ext [] s S2 := (X1 []).trans X2 (by simp [blk])
  have G2 := XS.good hG
  have hR2 := SlX.toR h2
  have hb2 : ∀ k, k ∈ blk ov → s.next ≤ k := fun k hk => by
    rcases b2 k hk with h | h
    · simp [blk] at h; omega
    · omega
  simp (maxSteps := 4000000) only [WC_seq, WC_region, contS_normal, contR_ap, WO_nil, WO_pp, contO_ap, W_mv, W_call, ev_tmp, ev_func, putT_some, get_put_eq, Option.getD_some, List.map_cons, List.map_nil]
  refine W.mono (Unpack_ok hC hG' hP hU (d := d + 4) hR2 hB (by omega) G2) ?_
  rintro ⟨r3, S3⟩ ⟨X3, h3⟩
  simp only at X3 h3
  have G3 := X3.good G2
  have hv3 := (hv.keep XS (by simp)).keep X3 (by simp)
  have hR3 := hR2.keep X3 (by simp)
  have le3 := X3.le
  rcases h3 with ⟨hn, rfl⟩ | ⟨⟨hg, hg2⟩, p, kv, vv, rfl, cs, hfr⟩
  · simp (maxSteps := 4000000) only [WC_seq, WC_region, contS_normal, contR_ap, WO_nil, WO_pp, contO_ap, atS_ap, W_some, W_mv, W_ext, W_call, dpure, ev_tmp, ev_func, putT_some, get_put_eq, get_put_ne, Nat.reduceEqDiff, not_false_eq_true, ofList_get, List.getElem?_cons_zero, Option.getD_some, List.map_cons, List.map_nil, getN, reduceCtorEq]
    refine W.mono (RUnpack_ok hR (d := d + 8) hv3 hB (by omega) G3) ?_
    rintro ⟨r4, S4⟩ ⟨X4, h4⟩
    simp only at X4 h4
    rcases h4 with ⟨_, rfl⟩ | ⟨hg, _⟩
    case inr => exact absurd hg hn
    have hv4 := hv3.keep X4 (by simp)
    have hR4 := hR3.keep X4 (by simp)
    have hTE := dstr_self bs
    have htb := toBytes_u8 bs
    rcases hR4 with ⟨hv1, hb1⟩ | ⟨b1, o1, sp1, cc1, hv1, _, _, hrd1⟩
    · rcases hv4 with ⟨hv5, _⟩ | ⟨b5, o5, sp5, cc5, hv5, _, _, hrd5⟩
      · rw [hv1, hv5]
        have d0 : dstr .eql ⟨⟨[]⟩⟩ ⟨⟨[]⟩⟩ = some (.bool true) := rfl
        simp (maxSteps := 4000000) (maxDischargeDepth := 8) only [WC_seq, WC_region, WC_ret, contS_normal, contR_ap, WO_nil, WO_pp, WO_pn, WO_g, gateO_tt, gateO_tf, contO_ap, contN_ap, atS_ap, atB_ap, W_some, W_mv, W_pick, W_bin, W_eq1, W_ext, W_call, dpure, dbin, dint, dread, eqOne, Ends_ret, ev_tmp, ev_const, ev_func, putT_some, get_put_eq, get_put_ne, not_false_eq_true, ofList_get, List.getElem?_cons_zero, Option.getD_some, dresults, tupled, List.map_nil, getN, if_true, if_false, Bool.not_true, Bool.false_eq_true, List.nil_append, List.cons_append, decide_true, Option.isNone_none, foot, W_cvToStr, gateO_un, eq_lt, eq_gt, Nat.reduceLT, Nat.lt_add_one, Nat.succ_pos, lv, lastU, beq_self_eq_true, d0]
      · rw [hv1, hv5]
        have d0 : dstr .eql ⟨⟨[]⟩⟩ ⟨⟨[]⟩⟩ = some (.bool true) := rfl
        have hr0 : S4.read b5 o5 0 = some [] := by rw [hb1] at hrd5; exact hrd5
        have t0 : toBytes [] = some [] := rfl
        simp (maxSteps := 4000000) (maxDischargeDepth := 8) only [WC_seq, WC_region, WC_ret, contS_normal, contR_ap, WO_nil, WO_pp, WO_pn, WO_g, gateO_tt, gateO_tf, contO_ap, contN_ap, atS_ap, atB_ap, W_some, W_mv, W_pick, W_bin, W_eq1, W_ext, W_call, dpure, dbin, dint, dread, eqOne, Ends_ret, ev_tmp, ev_const, ev_func, putT_some, get_put_eq, get_put_ne, not_false_eq_true, ofList_get, List.getElem?_cons_zero, Option.getD_some, dresults, tupled, List.map_nil, getN, List.length_nil, if_true, if_false, Bool.not_true, Bool.false_eq_true, List.nil_append, List.cons_append, decide_true, Option.isNone_none, foot, W_cvToStr, gateO_un, eq_lt, eq_gt, Nat.reduceLT, Nat.lt_add_one, Nat.succ_pos, lv, lastU, beq_self_eq_true, hb1, List.length_nil, hr0, t0, d0]
    · rcases hv4 with ⟨hv5, hb5⟩ | ⟨b5, o5, sp5, cc5, hv5, _, _, hrd5⟩
      · rw [hv1, hv5]
        have d0 : dstr .eql ⟨⟨[]⟩⟩ ⟨⟨[]⟩⟩ = some (.bool true) := rfl
        have hr0 : S4.read b1 o1 0 = some [] := by rw [hb5] at hrd1; exact hrd1
        have t0 : toBytes [] = some [] := rfl
        simp (maxSteps := 4000000) (maxDischargeDepth := 8) only [WC_seq, WC_region, WC_ret, contS_normal, contR_ap, WO_nil, WO_pp, WO_pn, WO_g, gateO_tt, gateO_tf, contO_ap, contN_ap, atS_ap, atB_ap, W_some, W_mv, W_pick, W_bin, W_eq1, W_ext, W_call, dpure, dbin, dint, dread, eqOne, Ends_ret, ev_tmp, ev_const, ev_func, putT_some, get_put_eq, get_put_ne, not_false_eq_true, ofList_get, List.getElem?_cons_zero, Option.getD_some, dresults, tupled, List.map_nil, getN, List.length_nil, if_true, if_false, Bool.not_true, Bool.false_eq_true, List.nil_append, List.cons_append, decide_true, Option.isNone_none, foot, W_cvToStr, gateO_un, eq_lt, eq_gt, Nat.reduceLT, Nat.lt_add_one, Nat.succ_pos, lv, lastU, beq_self_eq_true, hb5, List.length_nil, hr0, t0, d0]
      · rw [hv1, hv5]
        simp (maxSteps := 4000000) (maxDischargeDepth := 8) only [WC_seq, WC_region, WC_ret, contS_normal, contR_ap, WO_nil, WO_pp, WO_pn, WO_g, gateO_tt, gateO_tf, contO_ap, contN_ap, atS_ap, atB_ap, W_some, W_mv, W_pick, W_bin, W_eq1, W_ext, W_call, dpure, dbin, dint, dread, eqOne, Ends_ret, ev_tmp, ev_const, ev_func, putT_some, get_put_eq, get_put_ne, not_false_eq_true, ofList_get, List.getElem?_cons_zero, Option.getD_some, dresults, tupled, List.map_nil, getN, if_true, if_false, Bool.not_true, Bool.false_eq_true, List.nil_append, List.cons_append, decide_true, Option.isNone_none, foot, W_cvToStr, gateO_un, eq_lt, eq_gt, Nat.reduceLT, Nat.lt_add_one, Nat.succ_pos, lv, lastU, beq_self_eq_true, hrd1, hrd5, htb, hTE]
  · simp (maxSteps := 4000000) only [WC_seq, WC_region, contS_normal, contR_ap, WO_nil, WO_pp, contO_ap, atS_ap, W_some, W_mv, W_ext, W_call, dpure, ev_tmp, ev_func, putT_some, get_put_eq, get_put_ne, Nat.reduceEqDiff, not_false_eq_true, ofList_get, List.getElem?_cons_zero, Option.getD_some, List.map_cons, List.map_nil, getN, reduceCtorEq]
    refine W.mono (RUnpack_ok hR (d := d + 8) hv3 hB (by omega) G3) ?_
    rintro ⟨r4, S4⟩ ⟨X4, h4⟩
    simp only at X4 h4
    rcases h4 with ⟨hn, _⟩ | ⟨_, q, w, rfl, cr, hfr2⟩
    · exact absurd ⟨hg, hg2⟩ hn
    have hv4 := hv3.keep X4 (by simp)
    have hR4 := hR3.keep X4 (by simp)
    have cs4 := cs.keep X4 (by simp)
    have G4 := X4.good G3
    have hTE := dstr_self bs
    have htb := toBytes_u8 bs
    have hback := rdSt_back bs hB hg.1
    rw [hg.2, List.append_nil] at hback
    have hpk : packB (rdSt (bs, false)).1.1 (rdSt (bs, false)).1.2 = bs := hback.symm
    have hne : bs ≠ [] := fun e => by
      have h0 := packB_len (rdSt (bs, false)).1.1 (rdSt (bs, false)).1.2
      rw [hpk, e] at h0
      simp only [List.length_nil] at h0
      omega
    rcases hR4 with ⟨_, hb1⟩ | ⟨b1, o1, sp1, cc1, hv1, _, _, hrd1⟩
    · exact absurd hb1 hne
    rcases hv4 with ⟨_, hb1⟩ | ⟨b5, o5, sp5, cc5, hv5, _, _, hrd5⟩
    · exact absurd hb1 hne
    rw [hv1, hv5]
    simp (maxSteps := 4000000) (maxDischargeDepth := 8) only [WC_seq, WC_region, contS_normal, contR_ap, WO_nil, WO_pp, WO_pn, WO_g, gateO_tt, gateO_ff, contO_ap, contN_ap, atS_ap, atB_ap, W_some, W_mv, W_pick, W_bin, W_eq1, W_ext, W_call, dpure, dbin, dint, dread, eqOne, ev_tmp, ev_const, ev_func, putT_some, get_put_eq, get_put_ne, not_false_eq_true, ofList_get, List.getElem?_cons_zero, Option.getD_some, List.map_cons, List.map_nil, getN, if_true, if_false, Bool.not_true, Bool.not_false, Bool.false_eq_true, List.nil_append, List.cons_append, decide_true, foot, W_cvToStr, eq_lt, eq_gt, Nat.reduceLT, Nat.lt_add_one, Nat.succ_pos, lv, lastU, beq_self_eq_true, hrd1, hrd5, htb, hTE]
    have hcl := cs.lt
    have hpq : ∀ k, k ∈ own p kv vv → k ≠ q := fun k hk e => by
      have h1 := hcl k hk
      have h2 := hfr2 q (List.mem_cons_self ..)
      omega
    refine W.mono (looks_ok hF hI hL (d := d + 10) cs4 cr G4 (by have := cs4.len; omega) hpq) ?_
    rintro ⟨v5, S5⟩ ⟨h5, X5⟩
    simp only at h5 X5
    subst h5
    have G5 := X5.good G4
    have cs5 := cs4.keep X5 (by simp)
    have hlt5 := cs5.lt
    have hv6 := (hv3.keep X4 (by simp)).keep X5 (by simp)
    rcases hv6 with ⟨_, hb1⟩ | ⟨b6, o6, sp6, cc6, hv6, _, _, hrd6⟩
    · exact absurd hb1 hne
    have hee := hv5.symm.trans hv6
    injection hee with he1 he2 he3
    injection he1 with he1
    injection he1 with he4 he5 he6
    subst he4 he5
    simp (maxSteps := 4000000) (maxDischargeDepth := 8) only [WO_pn, WO_g, WO_hn, gateO_tt, gateO_ff, contN_ap, atS_ap, W_some, W_mv, W_call, dread, ev_tmp, ev_func, putT_some, get_put_eq, get_put_ne, not_false_eq_true, ofList_get, List.getElem?_cons_zero, Option.getD_some, List.map_cons, List.map_nil, List.nil_append, List.cons_append, foot, W_cvToStr, eq_lt, Nat.reduceLT, Nat.lt_add_one, Nat.succ_pos, hrd6, htb]
    have hb5l : b5 < s.next := hvl b5 (by rw [hv5]; simp [blk])
    have les := XS.le
    have hroom0 : 0 ≤ (rdSt (bs, false)).1.1 := (rdN_range (size := 2) (most := 65535) (bs, false) hB (by decide) (by decide)).1
    have hroom1 := hg2.1
    have hroom2 := hg2.2.1
    have le4 := X4.le
    have le5 := X5.le
    refine W.masked (hP.fr _) (Pack_ok hC hP hF hI (d := d + 1) (cs5.mask fun k hk => ?_) (mask_good G5 fun k hk => ?_) (by omega) (by omega)) ?_
    · have h1 := hcl k hk
      have h2 := hfr k hk
      exact ⟨by (simp only [hidden, shielded, noteAt, memN, Bool.or_false, Bool.or_eq_false_iff, Bool.and_eq_false_iff, bleF, bltF, beqF, true_and, and_true, true_or, or_true] <;> omega), by (simp only [hidden, shielded, noteAt, memN, Bool.or_false, Bool.or_eq_false_iff, Bool.and_eq_false_iff, bleF, bltF, beqF, true_and, and_true, true_or, or_true] <;> omega)⟩
    · exact ⟨by (simp only [hidden, shielded, noteAt, memN, Bool.or_false, Bool.or_eq_false_iff, Bool.and_eq_false_iff, bleF, bltF, beqF, true_and, and_true, true_or, or_true] <;> omega), by (simp only [hidden, shielded, noteAt, memN, Bool.or_false, Bool.or_eq_false_iff, Bool.and_eq_false_iff, bleF, bltF, beqF, true_and, and_true, true_or, or_true] <;> omega)⟩
    rintro v7 s7 ⟨hv7, hsh7, hb7, X7⟩ df
    simp only at hv7 hsh7 hb7 X7
    rw [hpk] at hv7 hsh7
    rcases SlR.of hv7 hsh7 with ⟨_, h0⟩ | ⟨b8, o8, sp8, cc8, rfl, _, _, hrd8⟩
    · exact absurd h0 hne
    have hsame : ∀ k, k ≠ b5 → (unmask S5 s7).get k = s7.get k := fun k hk => unmask_at (by (simp only [hidden, shielded, noteAt, memN, Bool.or_false, Bool.or_eq_false_iff, Bool.and_eq_false_iff, bleF, bltF, beqF, true_and, and_true, true_or, or_true] <;> omega)) X7
    have h8 : b8 ≠ b5 := fun e => by
      have := (hb7 b8 (by simp [blk])).1
      have h10 : S5.next ≤ b8 := this
      omega
    obtain ⟨S8, hS8⟩ : ∃ S8 : DS, S8 = unmask S5 s7 := ⟨_, rfl⟩
    have hrd9 : S8.read b8 o8 bs.length = some (u8s bs) := by
      rw [hS8]
      unfold DS.read at hrd8 ⊢
      rw [hsame b8 h8]
      exact hrd8
    simp (maxSteps := 4000000) (maxDischargeDepth := 8) only [WC_ret, contS_normal, contR_ap, WO_nil, WO_pn, WO_g, gateO_tt, gateO_ff, contN_ap, contHN_ap, atS_ap, W_some, W_mv, W_pick, W_bin, dpure, dbin, dread, Ends_ret, ev_tmp, ev_const, putT_some, get_put_eq, get_put_ne, not_false_eq_true, Option.getD_some, dresults, tupled, if_true, if_false, Bool.false_eq_true, List.nil_append, List.cons_append, foot, W_cvToStr, eq_lt, eq_gt, Nat.reduceLT, Nat.lt_add_one, ← hS8, hrd9, htb, hTE]
end
end Go.Dx.StA
