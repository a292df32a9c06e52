/- Finish, and which replies may be (made by tools/gen.py out of tfin.t). -/
import Derived.Test.YtmdkppjohmfhpaaGreatT1Enc
set_option linter.unusedVariables false
set_option linter.unusedSimpArgs false
set_option linter.unusedSectionVars false
set_option maxRecDepth 100000
set_option maxHeartbeats 4000000
namespace Go.Dx.TbA
open Go Go.Dx Go.Dx.Tab Go.Proofs.YtmdkppjohmfhpaaGreat
section
variable {E : Env} (hC : CFns E) (hT : TFns E) (hE : EFns E) {s s' : DS} {d : Nat} {t m clock : Nat} {M : TRs}
include hC hT hE
theorem tfinish_ok (c : TabAt s t m M clock) (hG : s.Good) (r : Rp) : W (dcall E (d + 10) (.func (.func 9) #[] #[]) [.pointer (some ⟨t, 0, none⟩), .agg ⟨r.cells⟩] s) fun x => x.1 = .int .i64 (finishE (rowOf M r.c) r) ∧ (∃ M' clock', TabAt x.2 t m M' clock' ∧ Turned M M' (decide (finishE (rowOf M r.c) r = 0)) ⟨r.c, r.n, true, r⟩) ∧ Ext [m] s x.2 := by
  have hol := DS.get_lt' c.go
  have hml := DS.get_lt' c.gm
  refine W_cps fun Q hQ => ?_
  rw [W_enter0 hT.iFinish hT.fFinish rfl]
  have hmade := tmade_ok hT (c.keep (F := []) (Ext.new (o := .cells (.list [.int .i64 r.c, .int .i64 r.n, .bool r.rej, .int .i64 r.trap, .int .i64 r.v, .int .i64 r.gas]) false)) (by simp) (by simp)).go (d := d + 8)
  simp (maxSteps := 4000000) (maxDischargeDepth := 8) only [WC_seq, WC_region, WC_cond, WC_skip, contS_normal, contR_ap, WO_nil, WO_pp, condC_false, contO_ap, atS_ap, W_some, W_mv, W_un, W_box, W_call, dpure, ev_tmp, ev_const, ev_func, putT_some, get_put_eq, get_put_ne, not_false_eq_true, ofList_get, List.getElem?_cons_zero, List.getElem?_cons_succ, Option.getD_some, List.map_cons, List.map_nil, Cells.get, getN, cells_agg, Bool.not_true, pp, pv, pg, W_ldA, ldA, DS.read, Cells.take, get_new_at, eq_lt, Nat.reduceLT, Nat.lt_add_one, Nat.succ_pos, d9, hG, Rp.cells, hmade]
  obtain ⟨S0, hS0⟩ : ∃ S0 : DS, S0 = s.new (.cells (.list [.int .i64 r.c, .int .i64 r.n, .bool r.rej, .int .i64 r.trap, .int .i64 r.v, .int .i64 r.gas]) false) := ⟨_, rfl⟩
  rw [← hS0]
  have X0 : Ext [] s S0 := by rw [hS0]; exact Ext.new
  have hG0 := X0.good hG
  have g0 : S0.get s.next = some (.cells (.list [.int .i64 r.c, .int .i64 r.n, .bool r.rej, .int .i64 r.trap, .int .i64 r.v, .int .i64 r.gas]) false) := by rw [hS0]; simp (maxSteps := 4000000) (maxDischargeDepth := 8) only [get_new_at, hG]
  clear hS0 hmade
  refine W.mono (encrep_ok hC hT hE (d := d) hG0 r) ?_
  rintro ⟨v1, s1⟩ ⟨⟨w, h1⟩, X1⟩
  simp only at h1 X1
  subst h1
  have X01 := X0.trans' X1
  have hG1 := X01.good hG
  have g1 := X1.keep g0 (by simp)
  have hl1 : s.next < s1.next := DS.get_lt' g1
  have c1 := c.keep X01 (by simp) (by simp)
  have go := c1.go
  have gm := c1.gm
  have wm := c1.wm
  have hol1 := DS.get_lt' go
  have hml1 := DS.get_lt' gm
  have hsame : ∀ e : Int, e ≠ 0 → ∀ y, Turned M M (decide (e = 0)) y := fun e he y k => by
    have : decide (e = 0) = false := decide_eq_false he
    rw [this]; simp
  have XN : ∀ ob ob2, Ext [] s1 ((s1.new ob).upd s1.next ob2) := fun ob ob2 => (Ext.new (F := [])).trans (Ext.upd (F := [s1.next]) (.inl (by simp))) (by simp)
  by_cases hmay : MayR r
  · rw [if_pos hmay]
    rcases tr_find M r.c 0 with ⟨hf, hr, happ⟩ | ⟨j, x, hf, hj, hr, hset⟩
    · have he : finishE (rowOf M r.c) r = 4 := by unfold finishE; rw [if_pos hmay, hr]
      rw [he] at hQ
      simp (maxSteps := 4000000) (maxDischargeDepth := 8) only [WC_seq, WC_region, WC_cond, WC_block, WC_skip, WC_ret, contS_normal, contS_ret, contB_ret, contR_ap, WO_nil, WO_pp, WO_g, gateO_tf, condC_true, condC_false, contO_ap, atS_ap, atD_ap, W_some, W_mv, W_pick, W_bin, W_un, W_nilck, W_fadr, W_ext, W_ld, W_look, W_st, W_alloc, dpure, dbin, dint, dread, Ends_ret, ev_tmp, ev_const, putT_some, putT_none, get_put_eq, get_put_ne, not_false_eq_true, ofList_get, List.getElem?_cons_zero, Option.getD_some, dresults, tupled, ldV_at, Cells.get, getN, Nat.zero_add, Nat.reduceAdd, st_wr, cells_agg, List.length_cons, List.length_nil, allOne, oneCellD, Bool.and_self, Bool.and_true, Nat.beq_eq, Nat.ble_eq, Nat.le_refl, if_true, if_false, Bool.not_true, Bool.not_false, Bool.false_eq_true, DS.wrC, Cells.size, Cells.fillFrom, Cells.set, setN, List.nil_append, DS.upd_next, nextN, wrN, Nat.add_zero, decide_true, get_new_at, good_new, good_at, eq_lt, eq_gt, Nat.reduceLT, Nat.lt_add_one, Nat.succ_pos, hG1, g1, hl1, go, gm, hol1, hml1, isKey, hf]
      exact hQ _ ⟨rfl, ⟨M, clock, c1.keep (XN _ _) (by simp) (by simp), hsame 4 (by decide) _⟩, (X01.trans' (XN _ _)).weaken (by simp)⟩
    · have hv : (trE x).val = .agg ⟨[.int .i64 x.1.num, .bool x.1.done, .int .i64 x.1.rep.c, .int .i64 x.1.rep.n, .bool x.1.rep.rej, .int .i64 x.1.rep.trap, .int .i64 x.1.rep.v, .int .i64 x.1.rep.gas]⟩ := rfl
      by_cases hn : x.1.num = r.n
      · have hn' : (x.1.num = r.n) = True := eq_true hn
        cases hd : x.1.done with
        | true =>
          have he : finishE (rowOf M r.c) r = 5 := by unfold finishE; rw [if_pos hmay, hr]; simp [hn, hd]
          rw [he] at hQ
          rw [hd] at hv
          simp (maxSteps := 4000000) (maxDischargeDepth := 8) only [WC_seq, WC_region, WC_cond, WC_block, WC_skip, WC_ret, contS_normal, contS_ret, contB_ret, contR_ap, WO_nil, WO_pp, WO_g, gateO_ff, condC_true, condC_false, contO_ap, atS_ap, atD_ap, W_some, W_mv, W_pick, W_bin, W_un, W_nilck, W_fadr, W_ext, W_ld, W_look, W_st, W_alloc, dpure, dbin, dint, dread, Ends_ret, ev_tmp, ev_const, putT_some, putT_none, get_put_eq, get_put_ne, not_false_eq_true, ofList_get, List.getElem?_cons_zero, Option.getD_some, dresults, tupled, ldV_at, Cells.get, getN, Nat.zero_add, Nat.reduceAdd, st_wr, cells_agg, List.length_cons, List.length_nil, allOne, oneCellD, Bool.and_self, Bool.and_true, Nat.beq_eq, Nat.ble_eq, Nat.le_refl, if_true, if_false, Bool.not_true, Bool.false_eq_true, DS.wrC, Cells.size, Cells.fillFrom, Cells.set, setN, DS.upd_get_self, DS.upd_get_ne, Option.map_some, wrN, Nat.add_zero, decide_true, get_new_at, get_new_ne, good_new, good_at, eq_lt, eq_gt, Nat.reduceLT, Nat.lt_add_one, Nat.succ_pos, hG1, g1, hl1, go, gm, hol1, hml1, isKey, hf, hv, hn']
          exact hQ _ ⟨rfl, ⟨M, clock, c1.keep (XN _ _) (by simp) (by simp), hsame 5 (by decide) _⟩, (X01.trans' (XN _ _)).weaken (by simp)⟩
        | false =>
          have he : finishE (rowOf M r.c) r = 0 := by unfold finishE; rw [if_pos hmay, hr]; simp [hn, hd]
          rw [he] at hQ
          rw [hd] at hv
          obtain ⟨hs1, hs2⟩ := hset ⟨r.c, r.n, true, r⟩ rfl
          simp (maxSteps := 4000000) (maxDischargeDepth := 8) only [WC_seq, WC_region, WC_cond, WC_block, WC_skip, WC_ret, contS_normal, contB_normal, contR_ap, WO_nil, WO_pp, WO_g, gateO_ff, condC_false, contO_ap, atS_ap, atD_ap, atG_ap, W_some, W_mv, W_pick, W_bin, W_un, W_nilck, W_build, W_fadr, W_ext, W_ld, W_look, W_st, W_alloc, W_mupd, dpure, dbin, dint, dread, dwrite, Ends_ret, ev_tmp, ev_const, putT_some, putT_none, get_put_eq, get_put_ne, not_false_eq_true, ofList_get, List.getElem?_cons_zero, Option.getD_some, dresults, tupled, ldV_at, Cells.get, getN, Nat.zero_add, Nat.reduceAdd, st_wr, cells_int, cells_bool, cells_agg, List.length_cons, List.length_nil, allOne, oneCellD, Bool.and_self, Bool.and_true, Bool.and_eq_true, Nat.beq_eq, Nat.ble_eq, Nat.reduceLeDiff, Nat.le_refl, and_self, if_true, if_false, Bool.not_true, Bool.false_eq_true, DS.wrC, Cells.size, Cells.fillFrom, Cells.set, setN, fillParts, List.take_zero, List.take_succ_cons, List.drop_succ_cons, List.drop_zero, List.nil_append, List.cons_append, List.drop_nil, List.append_nil, DS.upd_get_self, DS.upd_get_ne, DS.upd_wr, Option.map_some, Option.isSome_some, DS.set_upd, wrN, W_ldA, ldA, Nat.add_zero, decide_true, DS.read, Cells.take, get_new_at, get_new_ne, good_new, DS.upd_good, good_at, eq_lt, eq_gt, Nat.reduceLT, Nat.lt_add_one, Nat.succ_pos, hG1, g1, hl1, go, gm, hol1, hml1, isKey, hf, hv, hn', wm]
          have c2 := c1.keep (XN (.cells (.list [.int .i64 0, .bool false, .int .i64 0, .int .i64 0, .bool false, .int .i64 0, .int .i64 0, .int .i64 0]) false) (.cells (.list [.int .i64 x.1.num, .bool false, .int .i64 x.1.rep.c, .int .i64 x.1.rep.n, .bool x.1.rep.rej, .int .i64 x.1.rep.trap, .int .i64 x.1.rep.v, .int .i64 x.1.rep.gas]) false)) (by simp) (by simp)
          refine hQ _ ⟨rfl, ⟨M.set j (⟨r.c, r.n, true, r⟩, x.2), clock, ?_, fun k' => ?_⟩, ((X01.trans' (XN _ _)).weaken (by simp)).trans' (Ext.upd (.inl (by simp)))⟩
          · have := tab_map c2 (M.set j (⟨r.c, r.n, true, r⟩, x.2)) clock
            rw [← hs1] at this
            exact this
          · rw [hs2 k']; simp
      · have he : finishE (rowOf M r.c) r = 4 := by unfold finishE; rw [if_pos hmay, hr]; simp [hn]
        rw [he] at hQ
        simp (maxSteps := 4000000) (maxDischargeDepth := 8) only [WC_seq, WC_region, WC_cond, WC_block, WC_skip, WC_ret, contS_normal, contS_ret, contB_ret, contR_ap, WO_nil, WO_pp, WO_g, gateO_ff, condC_true, condC_false, contO_ap, atS_ap, atD_ap, W_some, W_mv, W_pick, W_bin, W_un, W_nilck, W_fadr, W_ext, W_ld, W_look, W_st, W_alloc, dpure, dbin, dint, dread, Ends_ret, ev_tmp, ev_const, putT_some, putT_none, get_put_eq, get_put_ne, not_false_eq_true, ofList_get, List.getElem?_cons_zero, Option.getD_some, dresults, tupled, ldV_at, Cells.get, getN, Nat.zero_add, Nat.reduceAdd, st_wr, cells_agg, List.length_cons, List.length_nil, allOne, oneCellD, Bool.and_self, Bool.and_true, Nat.beq_eq, Nat.ble_eq, Nat.le_refl, if_true, if_false, Bool.not_true, Bool.not_false, Bool.false_eq_true, DS.wrC, Cells.size, Cells.fillFrom, Cells.set, setN, DS.upd_get_self, DS.upd_get_ne, Option.map_some, wrN, Nat.add_zero, decide_true, decide_false, get_new_at, get_new_ne, good_new, good_at, eq_lt, eq_gt, Nat.reduceLT, Nat.lt_add_one, Nat.succ_pos, hG1, g1, hl1, go, gm, hol1, hml1, isKey, hf, hv, hn]
        exact hQ _ ⟨rfl, ⟨M, clock, c1.keep (XN _ _) (by simp) (by simp), hsame 4 (by decide) _⟩, (X01.trans' (XN _ _)).weaken (by simp)⟩
  · rw [if_neg hmay]
    have he : finishE (rowOf M r.c) r = 1 := by unfold finishE; rw [if_neg hmay]
    rw [he] at hQ
    simp (maxSteps := 4000000) only [WC_seq, WC_region, WC_cond, WC_ret, contS_normal, contS_ret, contR_ap, WO_nil, WO_pp, condC_true, contO_ap, atS_ap, W_some, W_mv, W_bin, W_ext, dpure, dbin, dint, Ends_ret, ev_tmp, ev_const, putT_some, get_put_eq, get_put_ne, Nat.reduceEqDiff, not_false_eq_true, Option.getD_some, dresults, tupled, getN, if_true, Bool.not_false, decide_false, Int.reduceEq]
    exact hQ _ ⟨rfl, ⟨M, clock, c1, hsame 1 (by decide) _⟩, X01.weaken (by simp)⟩
end
end Go.Dx.TbA
