/- The table's functions (made by tools/gen.py out of tab.t). -/
import Derived.Test.YtmdkppjohmfhpaaGreatT1Cd
import Derived.Test.YtmdkppjohmfhpaaGreatDxTab
set_option linter.unusedVariables false
set_option linter.unusedSimpArgs false
set_option linter.unusedSectionVars false
set_option maxRecDepth 100000
set_option maxHeartbeats 4000000
namespace Go.Dx.TbA
open Go Go.Dx Go.Dx.Tab Go.Proofs.YtmdkppjohmfhpaaGreat
structure TFns (E : Env) : Prop where
  fNew : E.fn 5 = some d5
  iNew : E.intr 5 = none
  fMade : E.fn 16 = some d16
  iMade : E.intr 16 = none
  fLast : E.fn 7 = some d7
  iLast : E.intr 7 = none
  fBegin : E.fn 8 = some d8
  iBegin : E.intr 8 = none
  fFinish : E.fn 9 = some d9
  iFinish : E.intr 9 = none
  fReply : E.fn 11 = some d11
  iReply : E.intr 11 = none
  fmay : E.fn 17 = some d17
  imay : E.intr 17 = none
  foMay : E.fn 27 = some d27
  ioMay : E.intr 27 = none
  fmayR : E.fn 28 = some d28
  imayR : E.intr 28 = none
  fwho : E.fn 48 = some d48
  iwho : E.intr 48 = none
  fwithin : E.fn 49 = some d49
  iwithin : E.intr 49 = none
structure TabAt (s : DS) (t m : Nat) (M : TRs) (clock : Nat) : Prop where
  go : s.get t = some (.cells (.list [.map (some m)]) false)
  wo : s.wr t = true
  gm : s.get m = some (.map (M.map trE) clock)
  wm : s.wr m = true
  ne : t ≠ m
theorem TabAt.keep {s s' : DS} {t m : Nat} {M : TRs} {clock : Nat} {F : List Nat} (c : TabAt s t m M clock) (e : Ext F s s') (h1 : t ∉ F) (h2 : m ∉ F) : TabAt s' t m M clock :=
  ⟨e.keep c.go h1, e.wrs c.wo, e.keep c.gm h2, e.wrs c.wm, c.ne⟩
section
variable {E : Env} (hT : TFns E) {s s' : DS} {d : Nat} {t m clock : Nat} {M : TRs}
include hT
theorem tnew_ok (hG : s.Good) : W (dcall E (d + 1) (.func (.func 5) #[] #[]) [] s) fun r => r.1 = .pointer (some ⟨s.next + 1, 0, none⟩) ∧ TabAt r.2 (s.next + 1) s.next [] 0 ∧ Ext [] s r.2 := by
  refine W_cps fun Q hQ => ?_
  rw [W_enter0 hT.iNew hT.fNew rfl]
  simp (maxSteps := 4000000) (maxDischargeDepth := 8) only [WC_seq, WC_region, WC_ret, contS_normal, contR_ap, WO_nil, WO_pp, contO_ap, atG_ap, W_some, W_mv, W_build, W_box, W_mkmap, Ends_ret, ev_tmp, ev_const, putT_some, get_put_eq, Option.getD_some, dresults, tupled, Nat.zero_add, cells_map, cells_agg, List.length_cons, List.length_nil, Bool.and_self, Bool.and_eq_true, Nat.beq_eq, Nat.ble_eq, Nat.le_refl, and_self, if_true, fillParts, List.take_zero, List.drop_succ_cons, List.nil_append, List.drop_nil, List.append_nil, pp, pv, nextN, d5, hG]
  refine hQ _ ⟨rfl, ⟨?_, (hG _ (Nat.le_succ _)).2, ?_, (hG _ (Nat.le_refl _)).2, by omega⟩, Ext.new.trans' Ext.new⟩
  · simp (maxSteps := 4000000) (maxDischargeDepth := 8) only [nextN, get_new_at, good_new, hG]
  · simp (maxSteps := 4000000) (maxDischargeDepth := 8) only [List.map_nil, nextN, get_new_at, get_new_ne, good_new, Nat.lt_add_one, hG]
theorem tmade_ok (go : s.get t = some (.cells (.list [.map (some m)]) false)) : dcall E (d + 1) (.func (.func 16) #[] #[]) [.pointer (some ⟨t, 0, none⟩)] s = some (.bool true, s) := by
  rw [← W_iff, W_enter0 hT.iMade hT.fMade rfl]
  simp (maxSteps := 4000000) only [WC_seq, WC_region, WC_ret, contS_normal, contR_ap, WO_nil, WO_pp, WO_g, gateO_tt, contO_ap, atS_ap, atB_ap, W_some, W_mv, W_pick, W_eq1, W_nilck, W_fadr, W_ld, dpure, eqOne, Ends_ret, ev_tmp, ev_const, putT_some, get_put_eq, get_put_ne, Nat.reduceEqDiff, not_false_eq_true, ofList_get, List.getElem?_cons_zero, Option.getD_some, dresults, tupled, ldV_at, Cells.get, getN, if_true, reduceCtorEq, Bool.not_false, pp, pv, pw, pg, Nat.add_zero, d16, go]
theorem within_ok (n a b : Int) : dcall E (d + 1) (.func (.func 49) #[] #[]) [.int .i64 n, .int .i64 a, .int .i64 b] s = some (.bool (decide (a ≤ n ∧ n ≤ b)), s) := by
  rw [← W_iff, W_enter0 hT.iwithin hT.fwithin rfl]
  by_cases h1 : a ≤ n
  · by_cases h2 : n ≤ b
    · simp (maxSteps := 4000000) only [WC_seq, WC_region, WC_ret, contS_normal, contR_ap, WO_nil, WO_pp, WO_g, gateO_tt, contO_ap, atS_ap, W_some, W_mv, W_pick, W_bin, dpure, dbin, dint, Ends_ret, ev_tmp, ev_const, putT_some, get_put_eq, get_put_ne, Nat.reduceEqDiff, not_false_eq_true, ofList_get, List.getElem?_cons_zero, List.getElem?_cons_succ, Option.getD_some, dresults, tupled, Bool.and_self, and_self, if_true, reduceCtorEq, pp, pv, pw, pg, decide_true, d49, h1, h2] <;> simp
    · simp (maxSteps := 4000000) only [WC_seq, WC_region, WC_ret, contS_normal, contR_ap, WO_nil, WO_pp, WO_g, gateO_tt, contO_ap, atS_ap, W_some, W_mv, W_pick, W_bin, dpure, dbin, dint, Ends_ret, ev_tmp, ev_const, putT_some, get_put_eq, get_put_ne, Nat.reduceEqDiff, not_false_eq_true, ofList_get, List.getElem?_cons_zero, List.getElem?_cons_succ, Option.getD_some, dresults, tupled, Bool.true_and, true_and, if_true, reduceCtorEq, pp, pv, pw, pg, decide_true, decide_false, d49, h1, h2] <;> simp
  · simp (maxSteps := 4000000) only [WC_seq, WC_region, WC_ret, contS_normal, contR_ap, WO_nil, WO_pp, WO_g, gateO_ft, contO_ap, atS_ap, W_some, W_mv, W_pick, W_bin, dpure, dbin, dint, Ends_ret, ev_tmp, ev_const, putT_some, get_put_eq, get_put_ne, Nat.reduceEqDiff, not_false_eq_true, ofList_get, List.getElem?_cons_zero, List.getElem?_cons_succ, Option.getD_some, dresults, tupled, if_true, if_false, reduceCtorEq, Bool.false_eq_true, List.nil_append, pp, pv, pw, pg, decide_false, d49, h1] <;> simp
theorem who_ok (c n : Int) : dcall E (d + 2) (.func (.func 48) #[] #[]) [.int .i64 c, .int .i64 n] s = some (.bool (decide (Who c n)), s) := by
  rw [← W_iff, W_enter0 hT.iwho hT.fwho rfl]
  have h1 := within_ok hT (d := d) (s := s) c 0 63
  have h2 := within_ok hT (d := d) (s := s) n 1 1099511627776
  by_cases c1 : 0 ≤ c ∧ c ≤ 63
  · rw [decide_eq_true c1] at h1
    simp (maxSteps := 4000000) only [WC_seq, WC_region, WC_ret, contS_normal, contR_ap, WO_nil, WO_pp, WO_g, gateO_tt, contO_ap, atS_ap, W_some, W_mv, W_pick, W_call, dpure, Ends_ret, ev_tmp, ev_const, ev_func, putT_some, get_put_eq, get_put_ne, Nat.reduceEqDiff, not_false_eq_true, ofList_get, List.getElem?_cons_zero, List.getElem?_cons_succ, Option.getD_some, dresults, tupled, List.map_cons, List.map_nil, if_true, reduceCtorEq, pp, pv, pw, pg, d48, h1, h2]
    simp only [Who]
    congr 3
    simp [c1.1, c1.2]
  · rw [decide_eq_false c1] at h1
    simp (maxSteps := 4000000) only [WC_seq, WC_region, WC_ret, contS_normal, contR_ap, WO_nil, WO_pp, WO_g, gateO_ft, contO_ap, atS_ap, W_some, W_mv, W_pick, W_call, dpure, Ends_ret, ev_tmp, ev_const, ev_func, putT_some, get_put_eq, get_put_ne, Nat.reduceEqDiff, not_false_eq_true, ofList_get, List.getElem?_cons_zero, Option.getD_some, dresults, tupled, List.map_cons, List.map_nil, if_false, reduceCtorEq, Bool.false_eq_true, List.nil_append, pp, pv, pw, pg, d48, h1]
    have : ¬ Who c n := fun h => c1 ⟨h.1, h.2.1⟩
    simp [this]
theorem omay_ok (hG : s.Good) (c n : Int) : W (dcall E (d + 3) (.func (.func 27) #[] #[]) [.agg ⟨[.int .i64 c, .int .i64 n, .slice none 0 0, .slice none 0 0, .int .i64 0]⟩] s) fun r => r.1 = .bool (decide (Who c n)) ∧ Ext [] s r.2 := by
  refine W_cps fun Q hQ => ?_
  rw [W_enter0 hT.ioMay hT.foMay rfl]
  have h1 := fun S => who_ok hT (d := d) (s := S) c n
  have h2 := fun S => within_ok hT (d := d + 1) (s := S) 0 0 1048576
  have e2 : decide ((0 : Int) ≤ 0 ∧ (0 : Int) ≤ 1048576) = true := by decide
  rw [e2] at h2
  have hz : ((0 : Nat) : Int) = 0 := rfl
  cases hw : decide (Who c n) with
  | true =>
    simp only [hw] at h1
    simp (maxSteps := 4000000) (maxDischargeDepth := 8) only [WC_seq, WC_region, WC_ret, contS_normal, contR_ap, WO_nil, WO_pp, WO_g, gateO_tt, contO_ap, atS_ap, W_some, W_mv, W_pick, W_bin, W_fadr, W_blenL, W_ld, W_box, W_call, dpure, dbin, dint, Ends_ret, ev_tmp, ev_const, ev_func, putT_some, get_put_eq, get_put_ne, not_false_eq_true, ofList_get, List.getElem?_cons_zero, Option.getD_some, dresults, tupled, List.map_cons, List.map_nil, ldV_at, Cells.get, getN, Nat.zero_add, cells_agg, if_true, pp, pv, pg, Nat.add_zero, decide_true, Int.reduceLE, get_new_at, eq_lt, Nat.reduceLT, Nat.lt_add_one, d27, hG, h1, h2, hz]
    exact hQ _ ⟨by rw [hw], Ext.new⟩
  | false =>
    simp only [hw] at h1
    simp (maxSteps := 4000000) (maxDischargeDepth := 8) only [WC_seq, WC_region, WC_ret, contS_normal, contR_ap, WO_nil, WO_pp, WO_g, gateO_ft, contO_ap, atS_ap, W_some, W_mv, W_pick, W_fadr, W_ld, W_box, W_call, dpure, Ends_ret, ev_tmp, ev_const, ev_func, putT_some, get_put_eq, get_put_ne, not_false_eq_true, ofList_get, List.getElem?_cons_zero, Option.getD_some, dresults, tupled, List.map_cons, List.map_nil, ldV_at, Cells.get, getN, Nat.zero_add, cells_agg, if_false, Bool.false_eq_true, List.nil_append, pp, pv, pg, nextN, Nat.add_zero, get_new_at, eq_lt, Nat.reduceLT, Nat.lt_add_one, d27, hG, h1, h2, hz]
    exact hQ _ ⟨by rw [hw], Ext.new⟩
theorem tmay_ok (hG : s.Good) (c n : Int) : W (dcall E (d + 4) (.func (.func 17) #[] #[]) [.int .i64 c, .int .i64 n] s) fun r => r.1 = .bool (decide (Who c n)) ∧ Ext [] s r.2 := by
  refine W_cps fun Q hQ => ?_
  rw [W_enter0 hT.imay hT.fmay rfl]
  simp (maxSteps := 4000000) (maxDischargeDepth := 8) only [WC_seq, WC_region, contS_normal, contR_ap, WO_nil, WO_pp, contO_ap, atG_ap, W_some, W_mv, W_build, W_call, ev_tmp, ev_const, ev_func, putT_some, get_put_eq, get_put_ne, not_false_eq_true, ofList_get, List.getElem?_cons_zero, List.getElem?_cons_succ, Option.getD_some, List.map_cons, List.map_nil, Nat.zero_add, Nat.reduceAdd, cells_int, List.length_cons, List.length_nil, Bool.and_self, Bool.and_eq_true, Nat.beq_eq, Nat.ble_eq, Nat.reduceLeDiff, and_self, if_true, fillParts, List.take_zero, List.take_succ_cons, List.drop_succ_cons, List.drop_zero, List.nil_append, List.cons_append, pp, pv, eq_lt, Nat.reduceLT, Nat.lt_add_one, Nat.succ_pos, d17, hG]
  refine W.mono (omay_ok hT (d := d) hG c n) ?_
  rintro ⟨v, s1⟩ ⟨h1, X1⟩
  simp only at h1 X1
  subst h1
  simp (maxSteps := 4000000) only [WC_ret, contS_normal, contR_ap, WO_nil, WO_pp, contO_ap, W_some, W_mv, Ends_ret, ev_tmp, putT_some, get_put_eq, Option.getD_some, dresults, tupled]
  exact hQ _ ⟨rfl, X1⟩
theorem tlast_ok (c : TabAt s t m M clock) (hG : s.Good) (k : Int) : W (dcall E (d + 2) (.func (.func 7) #[] #[]) [.pointer (some ⟨t, 0, none⟩), .int .i64 k] s) fun r => r.1 = .int .i64 (((rowOf M k).map (·.num)).getD 0) ∧ Ext [] s r.2 := by
  have go := c.go
  have gm := c.gm
  have hol := DS.get_lt' go
  have hml := DS.get_lt' gm
  have hmade := tmade_ok hT c.go (d := d)
  refine W_cps fun Q hQ => ?_
  rw [W_enter0 hT.iLast hT.fLast rfl]
  rcases tr_find M k 0 with ⟨hf, hr, _⟩ | ⟨j, x, hf, hj, hr, _⟩
  · simp (maxSteps := 4000000) (maxDischargeDepth := 8) only [WC_seq, WC_region, WC_cond, WC_skip, WC_ret, contS_normal, contR_ap, WO_nil, WO_pp, condC_false, contO_ap, atS_ap, W_some, W_mv, W_un, W_nilck, W_fadr, W_fld, W_ld, W_look, W_call, dpure, dread, Ends_ret, ev_tmp, ev_const, ev_func, putT_some, get_put_eq, get_put_ne, not_false_eq_true, ofList_get, List.getElem?_cons_zero, List.getElem?_cons_succ, Option.getD_some, dresults, tupled, List.map_cons, List.map_nil, ldV_at, Cells.get, getN, if_true, if_false, Bool.not_true, Bool.false_eq_true, pp, pv, Nat.add_zero, eq_lt, Nat.reduceLT, Nat.lt_add_one, Nat.succ_pos, d7, go, gm, hmade, hf, isKey, hG, hol, hml, W_fld, dpure, partOf, getN]
    rw [hr] at hQ
    exact hQ _ ⟨rfl, .refl⟩
  · have hv : (trE x).val = .agg ⟨[.int .i64 x.1.num, .bool x.1.done, .int .i64 x.1.rep.c, .int .i64 x.1.rep.n, .bool x.1.rep.rej, .int .i64 x.1.rep.trap, .int .i64 x.1.rep.v, .int .i64 x.1.rep.gas]⟩ := rfl
    simp (maxSteps := 4000000) (maxDischargeDepth := 8) only [WC_seq, WC_region, WC_cond, WC_skip, WC_ret, contS_normal, contR_ap, WO_nil, WO_pp, condC_false, contO_ap, atS_ap, W_some, W_mv, W_un, W_nilck, W_fadr, W_fld, W_ld, W_look, W_call, dpure, dread, Ends_ret, ev_tmp, ev_const, ev_func, putT_some, get_put_eq, get_put_ne, not_false_eq_true, ofList_get, List.getElem?_cons_zero, List.getElem?_cons_succ, Option.getD_some, dresults, tupled, List.map_cons, List.map_nil, ldV_at, Cells.get, getN, Nat.zero_add, if_true, if_false, Bool.not_true, Bool.false_eq_true, pp, pv, Nat.add_zero, eq_lt, Nat.reduceLT, Nat.lt_add_one, Nat.succ_pos, d7, go, gm, hmade, hf, hv, isKey, hG, hol, hml, W_fld, dpure, partOf, getN]
    rw [hr] at hQ
    exact hQ _ ⟨rfl, .refl⟩
omit hT in
theorem tab_map (c : TabAt s t m M clock) (M' : TRs) (clock' : Nat) : TabAt (s.upd m (.map (M'.map trE) clock')) t m M' clock' := by
  have go := c.go
  have gm := c.gm
  have ne := c.ne
  refine ⟨?_, ?_, ?_, ?_, ne⟩
  · rw [DS.upd_get_ne ne]; exact go
  · rw [DS.upd_wr]; exact c.wo
  · rw [DS.upd_get_self, gm]; rfl
  · rw [DS.upd_wr]; exact c.wm
/-- behind a change of a client's row: what the rows are -/
def Turned (M M' : TRs) (b : Bool) (y : TR) : Prop := ∀ k, rowOf M' k = if b = true ∧ k = y.key then some y else rowOf M k
theorem tbegin_ok (c : TabAt s t m M clock) (hG : s.Good) (k n : Int) : W (dcall E (d + 5) (.func (.func 8) #[] #[]) [.pointer (some ⟨t, 0, none⟩), .int .i64 k, .int .i64 n] s) fun r => r.1 = .int .i64 (beginE (rowOf M k) k n) ∧ (∃ M' clock', TabAt r.2 t m M' clock' ∧ Turned M M' (decide (beginE (rowOf M k) k n = 0)) ⟨k, n, false, Rp.zero⟩) ∧ Ext [m] s r.2 := by
  have go := c.go
  have gm := c.gm
  have hol := DS.get_lt' go
  have hml := DS.get_lt' gm
  have hmade := tmade_ok hT c.go (d := d + 3)
  refine W_cps fun Q hQ => ?_
  rw [W_enter0 hT.iBegin hT.fBegin rfl]
  have XN : ∀ ob ob2, Ext [] s ((s.new ob).upd s.next ob2) := fun ob ob2 => (Ext.new (F := [])).trans (Ext.upd (F := [s.next]) (.inl (by simp))) (by simp)
  have hsame : ∀ e : Int, e ≠ 0 → ∀ y, Turned M M (decide (e = 0)) y := fun e he y k => by
    have : decide (e = 0) = false := decide_eq_false he
    rw [this]; simp
  rcases tr_find M k 0 with ⟨hf, hr, happ⟩ | ⟨j, x, hf, hj, hr, hset⟩
  · simp (maxSteps := 4000000) (maxDischargeDepth := 8) only [WC_seq, WC_region, WC_cond, WC_block, WC_skip, contS_normal, contR_ap, WO_nil, WO_pp, condC_false, contO_ap, atS_ap, atD_ap, W_some, W_mv, W_un, W_nilck, W_fadr, W_ext, W_ld, W_look, W_st, W_alloc, W_call, dpure, dread, ev_tmp, ev_const, ev_func, putT_some, putT_none, get_put_eq, get_put_ne, not_false_eq_true, ofList_get, List.getElem?_cons_zero, List.getElem?_cons_succ, Option.getD_some, List.map_cons, List.map_nil, ldV_at, Cells.get, getN, Nat.zero_add, Nat.reduceAdd, st_wr, cells_agg, List.length_cons, List.length_nil, allOne, oneCellD, Bool.and_self, Bool.and_true, Nat.beq_eq, Nat.ble_eq, Nat.le_refl, if_true, Bool.not_true, DS.wrC, Cells.size, Cells.fillFrom, Cells.set, setN, pp, pv, pw, pg, wrN, Nat.add_zero, get_new_at, good_new, good_at, eq_lt, eq_gt, Nat.reduceLT, Nat.lt_add_one, Nat.succ_pos, d8, go, gm, hmade, hf, isKey, hG, hol, hml]
    have X1 := XN (.cells (.list [.int .i64 0, .bool false, .int .i64 0, .int .i64 0, .bool false, .int .i64 0, .int .i64 0, .int .i64 0]) false) (.cells (.list [.int .i64 0, .bool false, .int .i64 0, .int .i64 0, .bool false, .int .i64 0, .int .i64 0, .int .i64 0]) false)
    refine W.mono (tmay_ok hT (d := d) (X1.good hG) k n) ?_
    rintro ⟨v2, s2⟩ ⟨h2, X2⟩
    simp only at h2 X2
    subst h2
    have X12 := X1.trans' X2
    have c2 := c.keep X12 (by simp) (by simp)
    have go2 := c2.go
    have gm2 := c2.gm
    have wm2 := c2.wm
    by_cases hw : Who k n
    · have he : beginE (rowOf M k) k n = 0 := by unfold beginE; rw [if_pos hw, hr]
      rw [he] at hQ
      rw [decide_eq_true hw]
      simp (maxSteps := 4000000) only [WC_seq, WC_region, WC_cond, WC_skip, WC_ret, contS_normal, contB_normal, contR_ap, WO_nil, WO_pp, WO_g, gateO_ft, condC_false, contO_ap, atS_ap, atG_ap, W_some, W_mv, W_pick, W_un, W_nilck, W_build, W_fadr, W_ld, W_mupd, dpure, dwrite, Ends_ret, ev_tmp, ev_const, putT_some, putT_none, get_put_eq, get_put_ne, Nat.reduceEqDiff, not_false_eq_true, ofList_get, List.getElem?_cons_zero, List.getElem?_cons_succ, Option.getD_some, dresults, tupled, ldV_at, Cells.get, getN, Nat.zero_add, Nat.reduceAdd, cells_int, List.length_cons, List.length_nil, Bool.and_self, Bool.and_eq_true, Nat.beq_eq, Nat.ble_eq, Nat.reduceLeDiff, and_self, if_true, if_false, reduceCtorEq, Bool.not_true, Bool.false_eq_true, fillParts, List.take_zero, List.drop_succ_cons, List.drop_zero, List.nil_append, List.cons_append, Option.isSome_some, DS.set_upd, Nat.add_zero, go2, gm2, wm2, isKey, hf]
      refine hQ _ ⟨rfl, ⟨M ++ [(⟨k, n, false, Rp.zero⟩, clock)], clock + 1, ?_, fun k' => ?_⟩, (X12.weaken (by simp)).trans' (Ext.upd (.inl (by simp)))⟩
      · have := tab_map c2 (M ++ [(⟨k, n, false, Rp.zero⟩, clock)]) (clock + 1)
        rw [← trs_app] at this
        exact this
      · rw [happ _ clock rfl k']; simp
    · have he : beginE (rowOf M k) k n = 1 := by unfold beginE; rw [if_neg hw]
      rw [he] at hQ
      rw [decide_eq_false hw]
      simp (maxSteps := 4000000) only [WC_seq, WC_region, WC_cond, WC_ret, contS_normal, contS_ret, contB_ret, contR_ap, WO_nil, WO_pp, condC_true, contO_ap, atS_ap, W_some, W_mv, W_un, dpure, Ends_ret, ev_tmp, ev_const, putT_some, get_put_eq, Option.getD_some, dresults, tupled, Bool.not_false]
      exact hQ _ ⟨rfl, ⟨M, clock, c2, hsame 1 (by decide) _⟩, X12.weaken (by simp)⟩
  · have hv : (trE x).val = .agg ⟨[.int .i64 x.1.num, .bool x.1.done, .int .i64 x.1.rep.c, .int .i64 x.1.rep.n, .bool x.1.rep.rej, .int .i64 x.1.rep.trap, .int .i64 x.1.rep.v, .int .i64 x.1.rep.gas]⟩ := rfl
    simp (maxSteps := 4000000) (maxDischargeDepth := 8) only [WC_seq, WC_region, WC_cond, WC_block, WC_skip, contS_normal, contR_ap, WO_nil, WO_pp, condC_false, contO_ap, atS_ap, atD_ap, W_some, W_mv, W_un, W_nilck, W_fadr, W_ext, W_ld, W_look, W_st, W_alloc, W_call, dpure, dread, ev_tmp, ev_const, ev_func, putT_some, putT_none, get_put_eq, get_put_ne, not_false_eq_true, ofList_get, List.getElem?_cons_zero, List.getElem?_cons_succ, Option.getD_some, List.map_cons, List.map_nil, ldV_at, Cells.get, getN, Nat.zero_add, Nat.reduceAdd, st_wr, cells_agg, List.length_cons, List.length_nil, allOne, oneCellD, Bool.and_self, Bool.and_true, Nat.beq_eq, Nat.ble_eq, Nat.le_refl, if_true, Bool.not_true, DS.wrC, Cells.size, Cells.fillFrom, Cells.set, setN, pp, pv, pw, pg, wrN, Nat.add_zero, get_new_at, good_new, good_at, eq_lt, eq_gt, Nat.reduceLT, Nat.lt_add_one, Nat.succ_pos, d8, go, gm, hmade, hf, hv, isKey, hG, hol, hml]
    have X1 := XN (.cells (.list [.int .i64 0, .bool false, .int .i64 0, .int .i64 0, .bool false, .int .i64 0, .int .i64 0, .int .i64 0]) false) (.cells (.list [.int .i64 x.1.num, .bool x.1.done, .int .i64 x.1.rep.c, .int .i64 x.1.rep.n, .bool x.1.rep.rej, .int .i64 x.1.rep.trap, .int .i64 x.1.rep.v, .int .i64 x.1.rep.gas]) false)
    refine W.mono (tmay_ok hT (d := d) (X1.good hG) k n) ?_
    rintro ⟨v2, s2⟩ ⟨h2, X2⟩
    simp only at h2 X2
    subst h2
    have g7 := X2.keep (show ((s.new (.cells (.list [.int .i64 0, .bool false, .int .i64 0, .int .i64 0, .bool false, .int .i64 0, .int .i64 0, .int .i64 0]) false)).upd s.next (.cells (.list [.int .i64 x.1.num, .bool x.1.done, .int .i64 x.1.rep.c, .int .i64 x.1.rep.n, .bool x.1.rep.rej, .int .i64 x.1.rep.trap, .int .i64 x.1.rep.v, .int .i64 x.1.rep.gas]) false)).get s.next = some _ by simp (maxSteps := 4000000) (maxDischargeDepth := 8) only [DS.upd_get_self, Option.map_some, get_new_at, hG]; rfl) (by simp)
    have X12 := X1.trans' X2
    have c2 := c.keep X12 (by simp) (by simp)
    have go2 := c2.go
    have gm2 := c2.gm
    have wm2 := c2.wm
    by_cases hw : Who k n
    · rw [decide_eq_true hw]
      by_cases h3 : n < x.1.num
      · have he : beginE (rowOf M k) k n = 210 := by unfold beginE; rw [if_pos hw, hr]; simp [h3]
        rw [he] at hQ
        simp (maxSteps := 4000000) only [WC_seq, WC_region, WC_cond, WC_ret, contS_normal, contS_ret, contB_ret, contR_ap, WO_nil, WO_pp, WO_g, gateO_tt, condC_true, condC_false, contO_ap, atS_ap, W_some, W_mv, W_pick, W_bin, W_un, W_fadr, W_ld, dpure, dbin, dint, Ends_ret, ev_tmp, ev_const, putT_some, get_put_eq, get_put_ne, Nat.reduceEqDiff, not_false_eq_true, ofList_get, List.getElem?_cons_zero, List.getElem?_cons_succ, Option.getD_some, dresults, tupled, ldV_at, Cells.get, getN, if_true, Bool.not_true, Nat.add_zero, decide_true, g7, h3]
        exact hQ _ ⟨rfl, ⟨M, clock, c2, hsame 210 (by decide) _⟩, X12.weaken (by simp)⟩
      · by_cases h4 : n = x.1.num
        · have h4' : (n = x.1.num) = True := eq_true h4
          have he : beginE (rowOf M k) k n = 5 := by unfold beginE; rw [if_pos hw, hr]; simp [h4]
          rw [he] at hQ
          simp (maxSteps := 4000000) only [WC_seq, WC_region, WC_cond, WC_ret, contS_normal, contS_ret, contB_ret, contR_ap, WO_nil, WO_pp, WO_g, gateO_tt, condC_true, condC_false, contO_ap, atS_ap, W_some, W_mv, W_pick, W_bin, W_un, W_fadr, W_ld, dpure, dbin, dint, Ends_ret, ev_tmp, ev_const, putT_some, get_put_eq, get_put_ne, Nat.reduceEqDiff, not_false_eq_true, ofList_get, List.getElem?_cons_zero, List.getElem?_cons_succ, Option.getD_some, dresults, tupled, ldV_at, Cells.get, getN, if_true, Bool.not_true, Nat.add_zero, decide_true, decide_false, g7, h3, h4']
          exact hQ _ ⟨rfl, ⟨M, clock, c2, hsame 5 (by decide) _⟩, X12.weaken (by simp)⟩
        · have he : beginE (rowOf M k) k n = 0 := by unfold beginE; rw [if_pos hw, hr]; simp [h3, h4]
          rw [he] at hQ
          obtain ⟨hs1, hs2⟩ := hset ⟨k, n, false, Rp.zero⟩ rfl
          simp (maxSteps := 4000000) only [WC_seq, WC_region, WC_cond, WC_skip, WC_ret, contS_normal, contB_normal, contR_ap, WO_nil, WO_pp, WO_g, gateO_tt, condC_false, contO_ap, atS_ap, atG_ap, W_some, W_mv, W_pick, W_bin, W_un, W_nilck, W_build, W_fadr, W_ld, W_mupd, dpure, dbin, dint, dwrite, Ends_ret, ev_tmp, ev_const, putT_some, putT_none, get_put_eq, get_put_ne, Nat.reduceEqDiff, not_false_eq_true, ofList_get, List.getElem?_cons_zero, List.getElem?_cons_succ, Option.getD_some, dresults, tupled, ldV_at, Cells.get, getN, Nat.zero_add, Nat.reduceAdd, cells_int, List.length_cons, List.length_nil, Bool.and_self, Bool.and_eq_true, Nat.beq_eq, Nat.ble_eq, Nat.reduceLeDiff, and_self, if_true, reduceCtorEq, Bool.not_true, fillParts, List.take_zero, List.drop_succ_cons, List.drop_zero, List.nil_append, List.cons_append, Option.isSome_some, DS.set_upd, Nat.add_zero, decide_false, g7, h3, h4, go2, gm2, wm2, isKey, hf]
          refine hQ _ ⟨rfl, ⟨M.set j (⟨k, n, false, Rp.zero⟩, x.2), clock, ?_, fun k' => ?_⟩, (X12.weaken (by simp)).trans' (Ext.upd (.inl (by simp)))⟩
          · have := tab_map c2 (M.set j (⟨k, n, false, Rp.zero⟩, x.2)) clock
            rw [← hs1] at this
            exact this
          · rw [hs2 k']; simp
    · have he : beginE (rowOf M k) k n = 1 := by unfold beginE; rw [if_neg hw]
      rw [he] at hQ
      rw [decide_eq_false hw]
      simp (maxSteps := 4000000) only [WC_seq, WC_region, WC_cond, WC_ret, contS_normal, contS_ret, contB_ret, contR_ap, WO_nil, WO_pp, condC_true, contO_ap, atS_ap, W_some, W_mv, W_un, dpure, Ends_ret, ev_tmp, ev_const, putT_some, get_put_eq, Option.getD_some, dresults, tupled, Bool.not_false]
      exact hQ _ ⟨rfl, ⟨M, clock, c2, hsame 1 (by decide) _⟩, X12.weaken (by simp)⟩
/-- what Reply says -/
def replyV (x : Option TR) (n : Int) : List Value := match x with
  | some x => if x.done = true ∧ x.num = n then [.agg ⟨x.rep.cells⟩, .bool true] else [.agg ⟨Rp.zero.cells⟩, .bool false]
  | none => [.agg ⟨Rp.zero.cells⟩, .bool false]
theorem treply_ok (c : TabAt s t m M clock) (hG : s.Good) (k n : Int) : W (dcall E (d + 2) (.func (.func 11) #[] #[]) [.pointer (some ⟨t, 0, none⟩), .int .i64 k, .int .i64 n] s) fun r => r.1 = .tuple ⟨replyV (rowOf M k) n⟩ ∧ Ext [] s r.2 := by
  have go := c.go
  have gm := c.gm
  have hol := DS.get_lt' go
  have hml := DS.get_lt' gm
  have hmade := tmade_ok hT (c.keep (F := []) (Ext.new (o := .cells (.list [.int .i64 0, .int .i64 0, .bool false, .int .i64 0, .int .i64 0, .int .i64 0]) false)) (by simp) (by simp)).go (d := d)
  refine W_cps fun Q hQ => ?_
  rw [W_enter0 hT.iReply hT.fReply rfl]
  have XR : ∀ o1 o2 o3 o4, Ext [] s ((((s.new o1).new o2).upd (s.next + 1) o3).upd s.next o4) := fun o1 o2 o3 o4 => by
    have y1 : Ext [] s ((s.new o1).new o2) := Ext.new.trans' Ext.new
    have y2 : Ext [s.next, s.next + 1] ((s.new o1).new o2) (((s.new o1).new o2).upd (s.next + 1) o3) := Ext.upd (.inl (by simp))
    have y3 : Ext [s.next, s.next + 1] (((s.new o1).new o2).upd (s.next + 1) o3) ((((s.new o1).new o2).upd (s.next + 1) o3).upd s.next o4) := Ext.upd (.inl (by simp))
    exact y1.trans (y2.trans' y3) (by simp)
  rcases tr_find M k 0 with ⟨hf, hr, _⟩ | ⟨j, x, hf, hj, hr, _⟩
  · simp (maxSteps := 4000000) (maxDischargeDepth := 8) only [WC_seq, WC_region, WC_cond, WC_skip, WC_ret, contS_normal, contS_ret, contR_ap, WO_nil, WO_pp, WO_g, gateO_tf, condC_true, condC_false, contO_ap, atS_ap, atD_ap, atG_ap, W_some, W_mv, W_pick, W_un, W_nilck, W_build, W_fadr, W_ld, W_look, W_st, W_alloc, W_call, dpure, dread, Ends_ret, ev_tmp, ev_const, ev_func, putT_some, putT_none, get_put_eq, get_put_ne, not_false_eq_true, ofList_get, List.getElem?_cons_zero, List.getElem?_cons_succ, Option.getD_some, dresults, tupled, List.map_cons, List.map_nil, ldV_at, Cells.get, getN, Nat.zero_add, Nat.reduceAdd, st_wr, cells_agg, List.length_cons, List.length_nil, allOne, oneCellD, Bool.and_self, Bool.and_true, Nat.beq_eq, Nat.ble_eq, Nat.le_refl, if_true, if_false, Bool.not_true, Bool.not_false, Bool.false_eq_true, DS.wrC, Cells.size, Cells.fillFrom, Cells.set, setN, fillParts, List.nil_append, pp, pv, pw, pg, DS.upd_get_self, DS.upd_get_ne, DS.upd_next, DS.upd_wr, Option.map_some, nextN, wrN, Nat.add_zero, DS.read, Cells.take, get_new_at, get_new_ne, good_new, DS.upd_good, good_at, eq_lt, eq_gt, Nat.add_assoc, Nat.reduceLT, Nat.lt_add_one, Nat.succ_pos, d11, go, gm, hmade, hf, isKey, hG, hol, hml]
    rw [hr] at hQ
    exact hQ _ ⟨rfl, XR _ _ _ _⟩
  · have hv : (trE x).val = .agg ⟨[.int .i64 x.1.num, .bool x.1.done, .int .i64 x.1.rep.c, .int .i64 x.1.rep.n, .bool x.1.rep.rej, .int .i64 x.1.rep.trap, .int .i64 x.1.rep.v, .int .i64 x.1.rep.gas]⟩ := rfl
    rw [hr] at hQ
    unfold replyV at hQ
    cases hd : x.1.done with
    | false =>
      rw [hd] at hv
      simp (maxSteps := 4000000) (maxDischargeDepth := 8) only [WC_seq, WC_region, WC_cond, WC_skip, WC_ret, contS_normal, contS_ret, contR_ap, WO_nil, WO_pp, WO_g, gateO_tf, condC_true, condC_false, contO_ap, atS_ap, atD_ap, atG_ap, W_some, W_mv, W_pick, W_un, W_nilck, W_build, W_fadr, W_ld, W_look, W_st, W_alloc, W_call, dpure, dread, Ends_ret, ev_tmp, ev_const, ev_func, putT_some, putT_none, get_put_eq, get_put_ne, not_false_eq_true, ofList_get, List.getElem?_cons_zero, List.getElem?_cons_succ, Option.getD_some, dresults, tupled, List.map_cons, List.map_nil, ldV_at, Cells.get, getN, Nat.zero_add, Nat.reduceAdd, st_wr, cells_agg, List.length_cons, List.length_nil, allOne, oneCellD, Bool.and_self, Bool.and_true, Nat.beq_eq, Nat.ble_eq, Nat.le_refl, if_true, if_false, Bool.not_true, Bool.not_false, Bool.false_eq_true, DS.wrC, Cells.size, Cells.fillFrom, Cells.set, setN, fillParts, List.nil_append, pp, pv, pw, pg, DS.upd_get_self, DS.upd_get_ne, DS.upd_next, DS.upd_wr, Option.map_some, nextN, wrN, Nat.add_zero, DS.read, Cells.take, get_new_at, get_new_ne, good_new, DS.upd_good, good_at, eq_lt, eq_gt, Nat.add_assoc, Nat.reduceLT, Nat.lt_add_one, Nat.succ_pos, d11, go, gm, hmade, hf, hv, isKey, hG, hol, hml]
      exact hQ _ ⟨by simp [hd, Rp.cells, Rp.zero], XR _ _ _ _⟩
    | true =>
      rw [hd] at hv
      by_cases hn : x.1.num = n
      · have hn' : (x.1.num = n) = True := eq_true hn
        simp (maxSteps := 4000000) (maxDischargeDepth := 8) only [WC_seq, WC_region, WC_cond, WC_skip, WC_ret, contS_normal, contR_ap, WO_nil, WO_pp, WO_g, gateO_ff, condC_false, contO_ap, atS_ap, atD_ap, W_some, W_mv, W_pick, W_bin, W_un, W_nilck, W_fadr, W_ld, W_look, W_st, W_alloc, W_call, dpure, dbin, dint, dread, Ends_ret, ev_tmp, ev_const, ev_func, putT_some, putT_none, get_put_eq, get_put_ne, not_false_eq_true, ofList_get, List.getElem?_cons_zero, List.getElem?_cons_succ, Option.getD_some, dresults, tupled, List.map_cons, List.map_nil, ldV_at, Cells.get, getN, Nat.zero_add, Nat.reduceAdd, st_wr, cells_agg, List.length_cons, List.length_nil, allOne, oneCellD, Bool.and_self, Bool.and_true, Nat.beq_eq, Nat.ble_eq, Nat.le_refl, if_true, if_false, Bool.not_true, Bool.false_eq_true, DS.wrC, Cells.size, Cells.fillFrom, Cells.set, setN, pp, pv, pw, pg, DS.upd_get_self, DS.upd_get_ne, DS.upd_wr, Option.map_some, nextN, wrN, W_ldA, ldA, Nat.add_zero, decide_true, DS.read, Cells.take, get_new_at, get_new_ne, good_new, DS.upd_good, good_at, eq_lt, eq_gt, Nat.reduceLT, Nat.lt_add_one, Nat.succ_pos, d11, go, gm, hmade, hf, hv, isKey, hG, hol, hml, hn']
        exact hQ _ ⟨by simp [hd, hn, Rp.cells], XR _ _ _ _⟩
      · simp (maxSteps := 4000000) (maxDischargeDepth := 8) only [WC_seq, WC_region, WC_cond, WC_skip, WC_ret, contS_normal, contS_ret, contR_ap, WO_nil, WO_pp, WO_g, gateO_ff, condC_true, condC_false, contO_ap, atS_ap, atD_ap, atG_ap, W_some, W_mv, W_pick, W_bin, W_un, W_nilck, W_build, W_fadr, W_ld, W_look, W_st, W_alloc, W_call, dpure, dbin, dint, dread, Ends_ret, ev_tmp, ev_const, ev_func, putT_some, putT_none, get_put_eq, get_put_ne, not_false_eq_true, ofList_get, List.getElem?_cons_zero, List.getElem?_cons_succ, Option.getD_some, dresults, tupled, List.map_cons, List.map_nil, ldV_at, Cells.get, getN, Nat.zero_add, Nat.reduceAdd, st_wr, cells_agg, List.length_cons, List.length_nil, allOne, oneCellD, Bool.and_self, Bool.and_true, Nat.beq_eq, Nat.ble_eq, Nat.le_refl, if_true, if_false, Bool.not_true, Bool.not_false, Bool.false_eq_true, DS.wrC, Cells.size, Cells.fillFrom, Cells.set, setN, fillParts, pp, pv, pw, pg, DS.upd_get_self, DS.upd_get_ne, DS.upd_wr, Option.map_some, nextN, wrN, Nat.add_zero, decide_false, DS.read, Cells.take, get_new_at, get_new_ne, good_new, DS.upd_good, good_at, eq_lt, eq_gt, Nat.reduceLT, Nat.lt_add_one, Nat.succ_pos, d11, go, gm, hmade, hf, hv, isKey, hG, hol, hml, hn]
        exact hQ _ ⟨by simp [hd, hn, Rp.cells, Rp.zero], XR _ _ _ _⟩
end
end Go.Dx.TbA
