/- TableAnswers, at the evaluator's level (made by tools/gen.py out of answers.t). -/
import Derived.Test.YtmdkppjohmfhpaaGreatT1Fin
import Derived.Test.YtmdkppjohmfhpaaGreatDxTopM
set_option linter.unusedVariables false
set_option linter.unusedSimpArgs false
set_option linter.unusedSectionVars false
set_option maxRecDepth 100000
set_option maxHeartbeats 4000000
namespace Go.Dx.TbA
open Go Go.Dx Go.Dx.Tab Go.Proofs.YtmdkppjohmfhpaaGreat
section
variable {E : Env} {s : DS} {d : Nat}
theorem refmay_ok (hf : E.fn 10 = some d10) (hi : E.intr 10 = none) (hG : s.Good) (r : Rp) : W (dcall E (d + 1) (.func (.func 10) #[] #[]) [.agg ⟨r.cells⟩] s) fun x => x.1 = .bool (decide (MayR r)) ∧ Ext [] s x.2 := by
  refine W_cps fun Q hQ => ?_
  rw [W_enter0 hi hf rfl]
  cases hrej : r.rej with
  | false =>
    have hnr : ¬ (r.rej = true ∧ (r.trap ≠ 0 ∨ r.v ≠ 0 ∨ r.gas ≠ 0)) := fun h => by rw [hrej] at h; cases h.1
    by_cases c1 : 0 ≤ r.c
    · skip
      by_cases c2 : r.c ≤ 63
      · skip
        by_cases c3 : 1 ≤ r.n
        · skip
          by_cases c4 : r.n ≤ 1099511627776
          · skip
            by_cases c5 : 0 ≤ r.trap
            · skip
              by_cases c6 : r.trap ≤ 6
              · skip
                by_cases c7 : 0 ≤ r.gas
                · skip
                  by_cases c8 : r.gas ≤ 1048576
                  · skip
                    have hyes : MayR r := ⟨hnr, ⟨c1, c2, c3, c4⟩, c5, c6, c7, c8⟩
                    rw [decide_eq_true hyes] at hQ
                    simp (maxSteps := 4000000) (maxDischargeDepth := 8) only [WC_seq, WC_region, WC_cond, WC_skip, WC_ret, contS_normal, contR_ap, WO_nil, WO_pp, WO_g, gateO_tt, gateO_ft, condC_false, contO_ap, atS_ap, W_some, W_mv, W_pick, W_bin, W_fadr, W_ld, W_box, dpure, dbin, dint, Ends_ret, ev_tmp, ev_const, putT_some, get_put_eq, get_put_ne, not_false_eq_true, ofList_get, List.getElem?_cons_zero, Option.getD_some, dresults, tupled, ldV_at, Cells.get, getN, Nat.zero_add, cells_agg, if_true, if_false, Bool.false_eq_true, List.nil_append, pp, pv, pw, pg, nextN, Nat.add_zero, decide_true, gateO_un, get_new_at, eq_lt, Nat.reduceLT, Nat.lt_add_one, d10, hG, Rp.cells, hrej, c1, c2, c3, c4, c5, c6, c7, c8]
                    exact hQ _ ⟨rfl, Ext.new⟩
                  · have hno : ¬ MayR r := fun h => c8 h.2.2.2.2.2
                    rw [decide_eq_false hno] at hQ
                    simp (maxSteps := 4000000) (maxDischargeDepth := 8) only [WC_seq, WC_region, WC_cond, WC_skip, WC_ret, contS_normal, contR_ap, WO_nil, WO_pp, WO_g, gateO_tt, gateO_ft, condC_false, contO_ap, atS_ap, W_some, W_mv, W_pick, W_bin, W_fadr, W_ld, W_box, dpure, dbin, dint, Ends_ret, ev_tmp, ev_const, putT_some, get_put_eq, get_put_ne, not_false_eq_true, ofList_get, List.getElem?_cons_zero, Option.getD_some, dresults, tupled, ldV_at, Cells.get, getN, Nat.zero_add, cells_agg, if_true, if_false, Bool.false_eq_true, List.nil_append, pp, pv, pw, pg, nextN, Nat.add_zero, decide_true, decide_false, gateO_un, get_new_at, eq_lt, Nat.reduceLT, Nat.lt_add_one, d10, hG, Rp.cells, hrej, c1, c2, c3, c4, c5, c6, c7, c8]
                    exact hQ _ ⟨rfl, Ext.new⟩
                · have hno : ¬ MayR r := fun h => c7 h.2.2.2.2.1
                  rw [decide_eq_false hno] at hQ
                  simp (maxSteps := 4000000) (maxDischargeDepth := 8) only [WC_seq, WC_region, WC_cond, WC_skip, WC_ret, contS_normal, contR_ap, WO_nil, WO_pp, WO_g, gateO_tt, gateO_ft, condC_false, contO_ap, atS_ap, W_some, W_mv, W_pick, W_bin, W_fadr, W_ld, W_box, dpure, dbin, dint, Ends_ret, ev_tmp, ev_const, putT_some, get_put_eq, get_put_ne, not_false_eq_true, ofList_get, List.getElem?_cons_zero, Option.getD_some, dresults, tupled, ldV_at, Cells.get, getN, Nat.zero_add, cells_agg, if_true, if_false, Bool.false_eq_true, List.nil_append, pp, pv, pw, pg, nextN, Nat.add_zero, decide_true, decide_false, gateO_un, get_new_at, eq_lt, Nat.reduceLT, Nat.lt_add_one, d10, hG, Rp.cells, hrej, c1, c2, c3, c4, c5, c6, c7]
                  exact hQ _ ⟨rfl, Ext.new⟩
              · have hno : ¬ MayR r := fun h => c6 h.2.2.2.1
                rw [decide_eq_false hno] at hQ
                simp (maxSteps := 4000000) (maxDischargeDepth := 8) only [WC_seq, WC_region, WC_cond, WC_skip, WC_ret, contS_normal, contR_ap, WO_nil, WO_pp, WO_g, gateO_tt, gateO_ft, condC_false, contO_ap, atS_ap, W_some, W_mv, W_pick, W_bin, W_fadr, W_ld, W_box, dpure, dbin, dint, Ends_ret, ev_tmp, ev_const, putT_some, get_put_eq, get_put_ne, not_false_eq_true, ofList_get, List.getElem?_cons_zero, Option.getD_some, dresults, tupled, ldV_at, Cells.get, getN, Nat.zero_add, cells_agg, if_true, if_false, Bool.false_eq_true, List.nil_append, pp, pv, pw, pg, nextN, Nat.add_zero, decide_true, decide_false, gateO_un, get_new_at, eq_lt, Nat.reduceLT, Nat.lt_add_one, d10, hG, Rp.cells, hrej, c1, c2, c3, c4, c5, c6]
                exact hQ _ ⟨rfl, Ext.new⟩
            · have hno : ¬ MayR r := fun h => c5 h.2.2.1
              rw [decide_eq_false hno] at hQ
              simp (maxSteps := 4000000) (maxDischargeDepth := 8) only [WC_seq, WC_region, WC_cond, WC_skip, WC_ret, contS_normal, contR_ap, WO_nil, WO_pp, WO_g, gateO_tt, gateO_ft, condC_false, contO_ap, atS_ap, W_some, W_mv, W_pick, W_bin, W_fadr, W_ld, W_box, dpure, dbin, dint, Ends_ret, ev_tmp, ev_const, putT_some, get_put_eq, get_put_ne, not_false_eq_true, ofList_get, List.getElem?_cons_zero, Option.getD_some, dresults, tupled, ldV_at, Cells.get, getN, Nat.zero_add, cells_agg, if_true, if_false, Bool.false_eq_true, List.nil_append, pp, pv, pw, pg, nextN, Nat.add_zero, decide_true, decide_false, gateO_un, get_new_at, eq_lt, Nat.reduceLT, Nat.lt_add_one, d10, hG, Rp.cells, hrej, c1, c2, c3, c4, c5]
              exact hQ _ ⟨rfl, Ext.new⟩
          · have hno : ¬ MayR r := fun h => c4 h.2.1.2.2.2
            rw [decide_eq_false hno] at hQ
            simp (maxSteps := 4000000) (maxDischargeDepth := 8) only [WC_seq, WC_region, WC_cond, WC_skip, WC_ret, contS_normal, contR_ap, WO_nil, WO_pp, WO_g, gateO_tt, gateO_ft, condC_false, contO_ap, atS_ap, W_some, W_mv, W_pick, W_bin, W_fadr, W_ld, W_box, dpure, dbin, dint, Ends_ret, ev_tmp, ev_const, putT_some, get_put_eq, get_put_ne, not_false_eq_true, ofList_get, List.getElem?_cons_zero, Option.getD_some, dresults, tupled, ldV_at, Cells.get, getN, Nat.zero_add, cells_agg, if_true, if_false, Bool.false_eq_true, List.nil_append, pp, pv, pw, pg, nextN, Nat.add_zero, decide_true, decide_false, gateO_un, get_new_at, eq_lt, Nat.reduceLT, Nat.lt_add_one, d10, hG, Rp.cells, hrej, c1, c2, c3, c4]
            exact hQ _ ⟨rfl, Ext.new⟩
        · have hno : ¬ MayR r := fun h => c3 h.2.1.2.2.1
          rw [decide_eq_false hno] at hQ
          simp (maxSteps := 4000000) (maxDischargeDepth := 8) only [WC_seq, WC_region, WC_cond, WC_skip, WC_ret, contS_normal, contR_ap, WO_nil, WO_pp, WO_g, gateO_tt, gateO_ft, condC_false, contO_ap, atS_ap, W_some, W_mv, W_pick, W_bin, W_fadr, W_ld, W_box, dpure, dbin, dint, Ends_ret, ev_tmp, ev_const, putT_some, get_put_eq, get_put_ne, not_false_eq_true, ofList_get, List.getElem?_cons_zero, Option.getD_some, dresults, tupled, ldV_at, Cells.get, getN, Nat.zero_add, cells_agg, if_true, if_false, Bool.false_eq_true, List.nil_append, pp, pv, pw, pg, nextN, Nat.add_zero, decide_true, decide_false, gateO_un, get_new_at, eq_lt, Nat.reduceLT, Nat.lt_add_one, d10, hG, Rp.cells, hrej, c1, c2, c3]
          exact hQ _ ⟨rfl, Ext.new⟩
      · have hno : ¬ MayR r := fun h => c2 h.2.1.2.1
        rw [decide_eq_false hno] at hQ
        simp (maxSteps := 4000000) (maxDischargeDepth := 8) only [WC_seq, WC_region, WC_cond, WC_skip, WC_ret, contS_normal, contR_ap, WO_nil, WO_pp, WO_g, gateO_tt, gateO_ft, condC_false, contO_ap, atS_ap, W_some, W_mv, W_pick, W_bin, W_fadr, W_ld, W_box, dpure, dbin, dint, Ends_ret, ev_tmp, ev_const, putT_some, get_put_eq, get_put_ne, not_false_eq_true, ofList_get, List.getElem?_cons_zero, Option.getD_some, dresults, tupled, ldV_at, Cells.get, getN, Nat.zero_add, cells_agg, if_true, if_false, Bool.false_eq_true, List.nil_append, pp, pv, pw, pg, nextN, Nat.add_zero, decide_true, decide_false, gateO_un, get_new_at, eq_lt, Nat.reduceLT, Nat.lt_add_one, d10, hG, Rp.cells, hrej, c1, c2]
        exact hQ _ ⟨rfl, Ext.new⟩
    · have hno : ¬ MayR r := fun h => c1 h.2.1.1
      rw [decide_eq_false hno] at hQ
      simp (maxSteps := 4000000) (maxDischargeDepth := 8) only [WC_seq, WC_region, WC_cond, WC_skip, WC_ret, contS_normal, contR_ap, WO_nil, WO_pp, WO_g, gateO_ft, condC_false, contO_ap, atS_ap, W_some, W_mv, W_pick, W_bin, W_fadr, W_ld, W_box, dpure, dbin, dint, Ends_ret, ev_tmp, ev_const, putT_some, get_put_eq, get_put_ne, not_false_eq_true, ofList_get, List.getElem?_cons_zero, Option.getD_some, dresults, tupled, ldV_at, Cells.get, getN, Nat.zero_add, cells_agg, if_true, if_false, Bool.false_eq_true, List.nil_append, pp, pv, pw, pg, nextN, Nat.add_zero, decide_false, gateO_un, get_new_at, eq_lt, Nat.reduceLT, Nat.lt_add_one, d10, hG, Rp.cells, hrej, c1]
      exact hQ _ ⟨rfl, Ext.new⟩
  | true =>
    by_cases a1 : r.trap = 0
    · by_cases a2 : r.v = 0
      · by_cases a3 : r.gas = 0
        · have hnr : ¬ (r.rej = true ∧ (r.trap ≠ 0 ∨ r.v ≠ 0 ∨ r.gas ≠ 0)) := fun h => by rcases h.2 with h | h | h <;> contradiction
          by_cases c1 : 0 ≤ r.c
          · skip
            by_cases c2 : r.c ≤ 63
            · skip
              by_cases c3 : 1 ≤ r.n
              · skip
                by_cases c4 : r.n ≤ 1099511627776
                · skip
                  have hyes : MayR r := ⟨hnr, ⟨c1, c2, c3, c4⟩, by omega, by omega, by omega, by omega⟩
                  rw [decide_eq_true hyes] at hQ
                  simp (maxSteps := 4000000) (maxDischargeDepth := 8) only [WC_seq, WC_region, WC_cond, WC_skip, WC_ret, contS_normal, contR_ap, WO_nil, WO_pp, WO_g, gateO_tt, gateO_ff, condC_false, contO_ap, atS_ap, W_some, W_mv, W_pick, W_bin, W_fadr, W_ld, W_box, dpure, dbin, dint, Ends_ret, ev_tmp, ev_const, putT_some, get_put_eq, get_put_ne, not_false_eq_true, ofList_get, List.getElem?_cons_zero, Option.getD_some, dresults, tupled, ldV_at, Cells.get, getN, Nat.zero_add, cells_agg, if_true, if_false, Bool.not_true, Bool.false_eq_true, pp, pv, pw, pg, Nat.add_zero, decide_true, Int.reduceLE, get_new_at, eq_lt, Nat.reduceLT, Nat.lt_add_one, d10, hG, Rp.cells, hrej, a1, a2, a3, c1, c2, c3, c4]
                  exact hQ _ ⟨rfl, Ext.new⟩
                · have hno : ¬ MayR r := fun h => c4 h.2.1.2.2.2
                  rw [decide_eq_false hno] at hQ
                  simp (maxSteps := 4000000) (maxDischargeDepth := 8) only [WC_seq, WC_region, WC_cond, WC_skip, WC_ret, contS_normal, contR_ap, WO_nil, WO_pp, WO_g, gateO_tt, gateO_ft, gateO_ff, condC_false, contO_ap, atS_ap, W_some, W_mv, W_pick, W_bin, W_fadr, W_ld, W_box, dpure, dbin, dint, Ends_ret, ev_tmp, ev_const, putT_some, get_put_eq, get_put_ne, not_false_eq_true, ofList_get, List.getElem?_cons_zero, Option.getD_some, dresults, tupled, ldV_at, Cells.get, getN, Nat.zero_add, cells_agg, if_true, if_false, Bool.not_true, Bool.false_eq_true, List.nil_append, pp, pv, pw, pg, nextN, Nat.add_zero, decide_true, decide_false, get_new_at, eq_lt, Nat.reduceLT, Nat.lt_add_one, d10, hG, Rp.cells, hrej, a1, a2, a3, c1, c2, c3, c4]
                  exact hQ _ ⟨rfl, Ext.new⟩
              · have hno : ¬ MayR r := fun h => c3 h.2.1.2.2.1
                rw [decide_eq_false hno] at hQ
                simp (maxSteps := 4000000) (maxDischargeDepth := 8) only [WC_seq, WC_region, WC_cond, WC_skip, WC_ret, contS_normal, contR_ap, WO_nil, WO_pp, WO_g, gateO_tt, gateO_ft, gateO_ff, condC_false, contO_ap, atS_ap, W_some, W_mv, W_pick, W_bin, W_fadr, W_ld, W_box, dpure, dbin, dint, Ends_ret, ev_tmp, ev_const, putT_some, get_put_eq, get_put_ne, not_false_eq_true, ofList_get, List.getElem?_cons_zero, Option.getD_some, dresults, tupled, ldV_at, Cells.get, getN, Nat.zero_add, cells_agg, if_true, if_false, Bool.not_true, Bool.false_eq_true, List.nil_append, pp, pv, pw, pg, nextN, Nat.add_zero, decide_true, decide_false, get_new_at, eq_lt, Nat.reduceLT, Nat.lt_add_one, d10, hG, Rp.cells, hrej, a1, a2, a3, c1, c2, c3]
                exact hQ _ ⟨rfl, Ext.new⟩
            · have hno : ¬ MayR r := fun h => c2 h.2.1.2.1
              rw [decide_eq_false hno] at hQ
              simp (maxSteps := 4000000) (maxDischargeDepth := 8) only [WC_seq, WC_region, WC_cond, WC_skip, WC_ret, contS_normal, contR_ap, WO_nil, WO_pp, WO_g, gateO_tt, gateO_ft, gateO_ff, condC_false, contO_ap, atS_ap, W_some, W_mv, W_pick, W_bin, W_fadr, W_ld, W_box, dpure, dbin, dint, Ends_ret, ev_tmp, ev_const, putT_some, get_put_eq, get_put_ne, not_false_eq_true, ofList_get, List.getElem?_cons_zero, Option.getD_some, dresults, tupled, ldV_at, Cells.get, getN, Nat.zero_add, cells_agg, if_true, if_false, Bool.not_true, Bool.false_eq_true, List.nil_append, pp, pv, pw, pg, nextN, Nat.add_zero, decide_true, decide_false, get_new_at, eq_lt, Nat.reduceLT, Nat.lt_add_one, d10, hG, Rp.cells, hrej, a1, a2, a3, c1, c2]
              exact hQ _ ⟨rfl, Ext.new⟩
          · have hno : ¬ MayR r := fun h => c1 h.2.1.1
            rw [decide_eq_false hno] at hQ
            simp (maxSteps := 4000000) (maxDischargeDepth := 8) only [WC_seq, WC_region, WC_cond, WC_skip, WC_ret, contS_normal, contR_ap, WO_nil, WO_pp, WO_g, gateO_tt, gateO_ft, gateO_ff, condC_false, contO_ap, atS_ap, W_some, W_mv, W_pick, W_bin, W_fadr, W_ld, W_box, dpure, dbin, dint, Ends_ret, ev_tmp, ev_const, putT_some, get_put_eq, get_put_ne, not_false_eq_true, ofList_get, List.getElem?_cons_zero, Option.getD_some, dresults, tupled, ldV_at, Cells.get, getN, Nat.zero_add, cells_agg, if_true, if_false, Bool.not_true, Bool.false_eq_true, List.nil_append, pp, pv, pw, pg, nextN, Nat.add_zero, decide_true, decide_false, get_new_at, eq_lt, Nat.reduceLT, Nat.lt_add_one, d10, hG, Rp.cells, hrej, a1, a2, a3, c1]
            exact hQ _ ⟨rfl, Ext.new⟩
        · have hno : ¬ MayR r := fun h => h.1 ⟨hrej, .inr (.inr a3)⟩
          rw [decide_eq_false hno] at hQ
          simp (maxSteps := 4000000) (maxDischargeDepth := 8) only [WC_seq, WC_region, WC_cond, WC_ret, contS_normal, contS_ret, contR_ap, WO_nil, WO_pp, WO_g, gateO_tt, gateO_ff, condC_true, contO_ap, atS_ap, W_some, W_mv, W_pick, W_bin, W_fadr, W_ld, W_box, dpure, dbin, dint, Ends_ret, ev_tmp, ev_const, putT_some, get_put_eq, get_put_ne, not_false_eq_true, ofList_get, List.getElem?_cons_zero, Option.getD_some, dresults, tupled, ldV_at, Cells.get, getN, Nat.zero_add, cells_agg, if_true, if_false, Bool.not_true, Bool.not_false, Bool.false_eq_true, pp, pv, pw, pg, decide_true, decide_false, get_new_at, eq_lt, Nat.reduceLT, Nat.lt_add_one, d10, hG, Rp.cells, hrej, a1, a2, a3]
          exact hQ _ ⟨rfl, Ext.new⟩
      · have hno : ¬ MayR r := fun h => h.1 ⟨hrej, .inr (.inl a2)⟩
        rw [decide_eq_false hno] at hQ
        simp (maxSteps := 4000000) (maxDischargeDepth := 8) only [WC_seq, WC_region, WC_cond, WC_ret, contS_normal, contS_ret, contR_ap, WO_nil, WO_pp, WO_g, gateO_tt, gateO_tf, gateO_ff, condC_true, contO_ap, atS_ap, W_some, W_mv, W_pick, W_bin, W_fadr, W_ld, W_box, dpure, dbin, dint, Ends_ret, ev_tmp, ev_const, putT_some, get_put_eq, get_put_ne, not_false_eq_true, ofList_get, List.getElem?_cons_zero, Option.getD_some, dresults, tupled, ldV_at, Cells.get, getN, Nat.zero_add, cells_agg, if_true, if_false, Bool.not_true, Bool.not_false, Bool.false_eq_true, List.nil_append, pp, pv, pw, pg, nextN, decide_true, decide_false, get_new_at, eq_lt, Nat.reduceLT, Nat.lt_add_one, d10, hG, Rp.cells, hrej, a1, a2]
        exact hQ _ ⟨rfl, Ext.new⟩
    · have hno : ¬ MayR r := fun h => h.1 ⟨hrej, .inl a1⟩
      rw [decide_eq_false hno] at hQ
      simp (maxSteps := 4000000) (maxDischargeDepth := 8) only [WC_seq, WC_region, WC_cond, WC_ret, contS_normal, contS_ret, contR_ap, WO_nil, WO_pp, WO_g, gateO_tt, gateO_tf, condC_true, contO_ap, atS_ap, W_some, W_mv, W_pick, W_bin, W_fadr, W_ld, W_box, dpure, dbin, dint, Ends_ret, ev_tmp, ev_const, putT_some, get_put_eq, get_put_ne, not_false_eq_true, ofList_get, List.getElem?_cons_zero, Option.getD_some, dresults, tupled, ldV_at, Cells.get, getN, Nat.zero_add, cells_agg, if_true, if_false, Bool.not_false, Bool.false_eq_true, List.nil_append, pp, pv, pw, pg, nextN, decide_false, get_new_at, eq_lt, Nat.reduceLT, Nat.lt_add_one, d10, hG, Rp.cells, hrej, a1]
      exact hQ _ ⟨rfl, Ext.new⟩
end
abbrev rpKs : List Kd := [.int .i64, .int .i64, .bool, .int .i64, .int .i64, .int .i64]
theorem InRow.keep {s s' : DS} {F : List Nat} {v : Value} {l : List (List Value)} (h : InRow s v l) (e : Ext F s s') (hF : ∀ k, k ∈ F → ∀ c, s.get k ≠ some (.cells c true)) : InRow s' v l := by
  rcases h with h | ⟨b, c, h1, h2⟩
  · exact .inl h
  · exact .inr ⟨b, c, h1, e.keep h2 fun hb => hF b hb _ h2⟩
theorem row6 {s : DS} {v0 : Value} {l : List (List Value)} (hr : InRow s v0 l) (hl : ∀ x, x ∈ l → FitK rpKs x) {i : Nat} (hi : i < l.length) :
    ∃ (r : Rp) (vb vc : Nat), v0 = .slice (some ⟨vb, 0, none⟩) l.length vc ∧ s.get vb = some (.cells (.list l.flatten) true) ∧ ldA 6 (.pointer (some ⟨vb, i * 6, none⟩)) s = some (.agg ⟨r.cells⟩) := by
  obtain ⟨x, hx⟩ : ∃ x, l[i]? = some x := ⟨l[i], List.getElem?_eq_getElem hi⟩
  have hfx := hl x (List.mem_of_getElem? hx)
  obtain ⟨x3, r3, rfl, ⟨a, rfl, _⟩, hf3⟩ := FitK.cons hfx
  obtain ⟨x4, r4, rfl, ⟨b, rfl, _⟩, hf4⟩ := FitK.cons hf3
  obtain ⟨x5, r5, rfl, ⟨j, rfl⟩, hf5⟩ := FitK.cons hf4
  obtain ⟨x6, r6, rfl, ⟨e, rfl, _⟩, hf6⟩ := FitK.cons hf5
  obtain ⟨x7, r7, rfl, ⟨f, rfl, _⟩, hf7⟩ := FitK.cons hf6
  obtain ⟨x8, r8, rfl, ⟨g, rfl, _⟩, hf8⟩ := FitK.cons hf7
  obtain rfl := FitK.nil hf8
  have hm9 : ∀ y, y ∈ l → y.length = 6 := fun y hy => FitK.length (hl y hy)
  rcases hr with ⟨_, rfl⟩ | ⟨vb, vc, rfl, hb⟩
  · simp at hx
  · have hlen : l.flatten.length = l.length * 6 := flatten_len hm9
    have hrd : s.read vb 0 (l.length * 6) = some l.flatten := by
      unfold DS.read
      rw [hb]
      simp only
      rw [take_list _ _ _ (by omega)]
      simp only [List.drop_zero]
      rw [List.take_of_length_le (by omega)]
    have h := row_read hrd hm9 hx
    rw [Nat.zero_add] at h
    refine ⟨⟨a, b, j, e, f, g⟩, vb, vc, rfl, hb, ?_⟩
    unfold ldA
    simp only [h]
    rfl
structure AnsI (s0 : DS) (t m : Nat) (v0 : Value) (l : List (List Value)) (n : Nat) (x : St) : Prop where
  ex : ∃ (i : Nat) (M : TRs) (clock : Nat), n = 101 - i ∧ i ≤ 100 ∧ i ≤ l.length ∧ x.defers = [] ∧
    (x.t.get 0 = some v0 ∧ x.t.get 3 = some (.pointer (some ⟨t, 0, none⟩)) ∧ x.t.get 4 = some (.int .i64 (i : Int))) ∧
    TabAt x.s t m M clock ∧ Ext [m] s0 x.s
section
variable {E : Env} (hC : CFns E) (hT : TFns E) (hE : EFns E) {s : DS} {d : Nat}
include hC hT hE
theorem ansLaw (f4 : E.fn 4 = some d4) (i4 : E.intr 4 = none) (h6 : E.intr 6 = some trueD) (f10 : E.fn 10 = some d10) (i10 : E.intr 10 = none) (hG : s.Good) {v0 : Value} {l : List (List Value)} (hr : InRow s v0 l) (hl : ∀ x, x ∈ l → FitK rpKs x) :
    W (dcall E (d + 12) (.func (.func 4) #[] #[]) [v0] s) fun r => r.1 = .bool true := by
  have lv : ∀ dd s, dcall E (dd + 1) (.func (.func 6) #[] #[]) [] s = some (.bool true, s) := fun _ _ => intr_run h6 rfl
  have hlf := hC.lf
  rw [W_enter0 i4 f4 rfl]
  simp (maxSteps := 4000000) only [WC_seq, WC_region, contS_normal, contR_ap, WO_nil, WO_pp, contO_ap, W_mv, W_call, ev_const, ev_func, putT_some, List.map_nil, pp, pv, pw, pg, d4]
  refine W.mono (tnew_ok hT (d := d + 10) hG) ?_
  rintro ⟨r, s1⟩ ⟨hr', ct, X1⟩
  simp only at hr' ct X1
  subst hr'
  have hG1 := X1.good hG
  simp (maxSteps := 4000000) only [WC_seq, WC_region, WC_cond, WC_block, WC_skip, contS_normal, contR_ap, WO_nil, WO_pp, WO_g, gateO_ff, condC_false, contO_ap, atS_ap, atB_ap, W_some, W_mv, W_pick, W_eq1, W_un, W_call, dpure, eqOne, ev_tmp, ev_const, ev_func, putT_some, get_put_eq, get_put_ne, Nat.reduceEqDiff, not_false_eq_true, Option.getD_some, List.map_nil, if_false, Bool.not_true, Bool.not_false, Bool.false_eq_true, lv]
  have hr2 := InRow.keep hr X1 (by simp)
  obtain ⟨t, ht⟩ : ∃ t, t = s.next + 1 := ⟨_, rfl⟩
  obtain ⟨m, hm⟩ : ∃ m, m = s.next := ⟨_, rfl⟩
  rw [← ht, ← hm] at ct
  rw [← ht]
  have htm : t ≠ m := by omega
  have hno : ∀ k, k ∈ [m] → ∀ c, s1.get k ≠ some (.cells c true) := fun k hk c hc => by
    simp only [List.mem_cons, List.not_mem_nil, or_false] at hk
    subst hk
    rw [ct.gm] at hc; cases hc
  refine WC_loop (AnsI s1 t m v0 l) 101 (by omega) ⟨0, [], 0, rfl, by omega, by omega, rfl, ?_, ct, .refl⟩ ?_
  · simp (maxSteps := 4000000) only [get_put_eq, get_put_ne, Nat.reduceEqDiff, not_false_eq_true, ofList_get, List.getElem?_cons_zero, Bool.true_and, true_and, reduceCtorEq]
    rfl
  rintro n ⟨tt, S, ds⟩ hn ⟨i, M, clock, rfl, hi, hil, hds, ⟨g0, g3, g4⟩, cS, XS⟩
  simp only at hds g0 g3 g4 cS XS
  subst hds
  have hGS := XS.good hG1
  have hrS := InRow.keep hr2 XS hno
  by_cases c1 : i < l.length ∧ i < 100
  · obtain ⟨hi1, hi2⟩ := c1
    have e1 : (i : Int) < (l.length : Int) := by omega
    have e2 : (i : Int) < 100 := by omega
    have w1 : dwrap .i64 ((i : Int) + 1) = ((i + 1 : Nat) : Int) := by rw [dwrap_in (by omega) (by omega)]; omega
    obtain ⟨r, vb, vc, hv0, hb, hld⟩ := row6 hrS hl hi1
    rw [hv0] at g0
    simp only [Rp.cells] at hld
    obtain ⟨S1, hS1⟩ : ∃ S1 : DS, S1 = (S.new (.cells (.list [.int .i64 0, .int .i64 0, .bool false, .int .i64 0, .int .i64 0, .int .i64 0]) false)).upd S.next (.cells (.list [.int .i64 r.c, .int .i64 r.n, .bool r.rej, .int .i64 r.trap, .int .i64 r.v, .int .i64 r.gas]) false) := ⟨_, rfl⟩
    have XQ : Ext [] S S1 := by rw [hS1]; exact (Ext.new (F := [])).trans (Ext.upd (F := [S.next]) (.inl (by simp))) (by simp)
    have hGQ := XQ.good hGS
    have gq : S1.get S.next = some (.cells (.list [.int .i64 r.c, .int .i64 r.n, .bool r.rej, .int .i64 r.trap, .int .i64 r.v, .int .i64 r.gas]) false) := by rw [hS1]; simp (maxSteps := 4000000) (maxDischargeDepth := 8) only [DS.upd_get_self, Option.map_some, get_new_at, hGS]
    have hml' := DS.get_lt' cS.gm
    have htl' := DS.get_lt' cS.go
    have cQ := cS.keep XQ (by simp) (by simp)
    simp (maxSteps := 4000000) (maxDischargeDepth := 8) only [WC_seq, WC_region, WC_cond, WC_block, WC_skip, contS_normal, contR_ap, WO_nil, WO_pp, WO_g, gateO_tt, condC_true, contO_ap, atS_ap, atD_ap, W_some, W_mv, W_pick, W_bin, W_fadr, W_ixL, W_blenL, W_ld, W_st, W_alloc, W_call, dpure, dbin, dint, ev_tmp, ev_const, ev_func, putT_some, putT_none, get_put_eq, get_put_ne, not_false_eq_true, Option.getD_some, List.map_cons, List.map_nil, ldV_at, Cells.get, getN, Nat.zero_add, Nat.reduceAdd, st_wr, cells_agg, List.length_cons, List.length_nil, allOne, oneCellD, Bool.and_self, Bool.and_true, Nat.beq_eq, Nat.ble_eq, Nat.blt_eq, Nat.le_refl, if_true, DS.wrC, Cells.size, Cells.fillFrom, Cells.set, setN, DS.upd_get_self, Option.map_some, wrN, W_ldA, Nat.add_zero, asIdx_cast, decide_true, get_new_at, good_new, good_at, eq_lt, eq_gt, Nat.reduceLT, Nat.lt_add_one, Nat.succ_pos, g0, g3, g4, e1, e2, hi1, hld, hGS]
    rw [← hS1]
    refine W.mono (tbegin_ok hT (d := d + 6) cQ hGQ r.c r.n) ?_
    rintro ⟨v2, s2⟩ ⟨h2, ⟨M2, clock2, c2, hM2⟩, X2⟩
    simp only at h2 c2 X2
    subst h2
    have hG2 := X2.good hGQ
    have gq2 := X2.keep gq (by simp; omega)
    simp (maxSteps := 4000000) (maxDischargeDepth := 8) only [WC_seq, WC_region, contS_normal, contR_ap, WO_nil, WO_pp, contO_ap, atS_ap, W_some, W_mv, W_call, ev_tmp, ev_func, putT_some, get_put_eq, get_put_ne, not_false_eq_true, Option.getD_some, List.map_cons, List.map_nil, Cells.get, getN, W_ldA, ldA, DS.read, Cells.take, eq_lt, Nat.reduceLT, Nat.lt_add_one, g0, g3, g4, gq2]
    refine W.mono (tfinish_ok hC hT hE (d := d + 1) c2 hG2 r) ?_
    rintro ⟨v3, s3⟩ ⟨h3, ⟨M3, clock3, c3, hM3⟩, X3⟩
    simp only at h3 c3 X3
    subst h3
    have hG3 := X3.good hG2
    have gq3 := X3.keep gq2 (by simp; omega)
    simp (maxSteps := 4000000) (maxDischargeDepth := 8) only [WC_seq, WC_region, contS_normal, contR_ap, WO_nil, WO_pp, contO_ap, atS_ap, W_some, W_mv, W_call, ev_tmp, ev_func, putT_some, get_put_eq, get_put_ne, not_false_eq_true, Option.getD_some, List.map_cons, List.map_nil, Cells.get, getN, W_ldA, ldA, DS.read, Cells.take, eq_lt, Nat.reduceLT, Nat.lt_add_one, g0, g3, g4, gq3]
    refine W.mono (refmay_ok f10 i10 (d := d + 10) hG3 r) ?_
    rintro ⟨v4, s4⟩ ⟨h4, X4⟩
    simp only at h4 X4
    subst h4
    have hG4 := X4.good hG3
    have gq4 := X4.keep gq3 (by simp)
    have c4 := c3.keep X4 (by simp) (by simp)
    have X04 : Ext [m] s1 s4 := XS.trans' ((XQ.weaken (by simp)).trans' (X2.trans' (X3.trans' (X4.weaken (by simp)))))
    by_cases hmay : MayR r
    · rw [decide_eq_true hmay]
      simp (maxSteps := 4000000) (maxDischargeDepth := 8) only [WC_seq, WC_region, WC_cond, WC_skip, contS_normal, contR_ap, WO_nil, WO_pp, condC_false, contO_ap, atS_ap, W_some, W_mv, W_un, W_fadr, W_ld, W_call, dpure, ev_tmp, ev_func, putT_some, get_put_eq, get_put_ne, not_false_eq_true, Option.getD_some, List.map_cons, List.map_nil, ldV_at, Cells.get, getN, Nat.zero_add, Bool.not_true, Nat.add_zero, eq_lt, Nat.reduceLT, Nat.lt_add_one, g0, g3, g4, gq4]
      refine W.mono (treply_ok hT (d := d + 9) c4 hG4 r.c r.n) ?_
      rintro ⟨v5, s5⟩ ⟨h5, X5⟩
      simp only at h5 X5
      subst h5
      have hG5 := X5.good hG4
      have gq5 := X5.keep gq4 (by simp)
      have hl5 : S.next < s5.next := DS.get_lt' gq5
      have hwho := hmay.2.1
      have XN5 : ∀ ob ob2, Ext [] s5 ((s5.new ob).upd s5.next ob2) := fun ob ob2 => (Ext.new (F := [])).trans (Ext.upd (F := [s5.next]) (.inl (by simp))) (by simp)
      have hfin : ∀ S6 (t6 : PT Value), Ext [] s5 S6 → (t6.get 0 = some v0 ∧ t6.get 3 = some (.pointer (some ⟨t, 0, none⟩)) ∧ t6.get 4 = some (.int .i64 ((i + 1 : Nat) : Int))) → ∃ m', m' < 101 - i ∧ AnsI s1 t m v0 l m' ⟨t6, S6, []⟩ := fun S6 t6 X6 hh =>
        ⟨101 - (i + 1), by omega, ⟨i + 1, M3, clock3, rfl, by omega, by omega, rfl, hh, (c4.keep X5 (by simp) (by simp)).keep X6 (by simp) (by simp), X04.trans' ((X5.trans' X6).weaken (by simp))⟩⟩
      have hoo : eqValF 5000 (.struct [(0, 1, .one .int), (1, 1, .one .int), (2, 1, .one .bool), (3, 1, .one .int), (4, 1, .one .int), (5, 1, .one .int)]) (.agg ⟨[.int .i64 r.c, .int .i64 r.n, .bool r.rej, .int .i64 r.trap, .int .i64 r.v, .int .i64 r.gas]⟩) (.agg ⟨[.int .i64 r.c, .int .i64 r.n, .bool r.rej, .int .i64 r.trap, .int .i64 r.v, .int .i64 r.gas]⟩) = some true := by
        simp [eqValF, eqFieldsF, eqOne, getN]
      by_cases hb0 : beginE (rowOf M r.c) r.c r.n = 0
      · have hr2' : rowOf M2 r.c = some ⟨r.c, r.n, false, Rp.zero⟩ := by rw [hM2 r.c, if_pos ⟨decide_eq_true hb0, rfl⟩]
        have hf0 : finishE (rowOf M2 r.c) r = 0 := by rw [hr2']; unfold finishE; rw [if_pos hmay]; simp
        have hr3 : rowOf M3 r.c = some ⟨r.c, r.n, true, r⟩ := by rw [hM3 r.c, if_pos ⟨decide_eq_true hf0, rfl⟩]
        have hrp : replyV (rowOf M3 r.c) r.n = [.agg ⟨[.int .i64 r.c, .int .i64 r.n, .bool r.rej, .int .i64 r.trap, .int .i64 r.v, .int .i64 r.gas]⟩, .bool true] := by rw [hr3]; simp [replyV, Rp.cells]
        rw [hrp]
        simp (maxSteps := 4000000) (maxDischargeDepth := 8) only [WC_seq, WC_region, WC_cond, WC_skip, contS_normal, contB_normal, contR_ap, contL_normal, WO_nil, WO_pp, WO_g, gateO_tt, gateO_ft, gateO_ff, condC_false, contO_ap, atS_ap, atD_ap, W_some, W_mv, W_pick, W_bin, W_un, W_ext, W_st, W_alloc, dpure, dbin, dint, ev_tmp, ev_const, putT_some, putT_none, get_put_eq, get_put_ne, not_false_eq_true, Option.getD_some, Cells.get, getN, Nat.zero_add, Nat.reduceAdd, st_wr, cells_agg, List.length_cons, List.length_nil, allOne, oneCellD, Bool.and_self, Bool.and_true, Nat.beq_eq, Nat.ble_eq, Nat.le_refl, if_true, if_false, Bool.not_true, Bool.false_eq_true, DS.wrC, Cells.size, Cells.fillFrom, Cells.set, setN, List.nil_append, DS.upd_get_self, DS.upd_get_ne, DS.upd_next, Option.map_some, nextN, wrN, W_ldA, ldA, decide_true, decide_false, Int.reduceEq, DS.read, Cells.take, gateO_un, get_new_at, get_new_ne, good_new, good_at, eq_lt, eq_gt, Nat.reduceLT, Nat.lt_add_one, g0, g3, g4, gq5, hl5, hG5, hb0, hf0, W_eq, hoo, w1]
        exact hfin _ _ (XN5 _ _) ⟨by simp (maxSteps := 4000000) only [get_put_ne, not_false_eq_true, reduceCtorEq, g0, hv0], by simp (maxSteps := 4000000) only [get_put_ne, Nat.reduceEqDiff, not_false_eq_true, g3], by simp (maxSteps := 4000000) only [get_put_eq]⟩
      · by_cases hb1 : beginE (rowOf M r.c) r.c r.n = 210
        · have hb1x : ¬ (210 : Int) = 0 := by decide
          obtain ⟨x0, ho, hlt⟩ : ∃ x0, rowOf M r.c = some x0 ∧ r.n < x0.num := by
            unfold beginE at hb1
            rw [if_pos hwho] at hb1
            cases ho : rowOf M r.c with
            | none => rw [ho] at hb1; simp at hb1
            | some x0 =>
              rw [ho] at hb1
              simp only at hb1
              by_cases h1 : r.n < x0.num
              · exact ⟨x0, rfl, h1⟩
              · rw [if_neg h1] at hb1
                by_cases h2 : r.n = x0.num
                · rw [if_pos h2] at hb1; omega
                · rw [if_neg h2] at hb1; omega
          have hne : ¬ x0.num = r.n := by omega
          have hr2' : rowOf M2 r.c = some x0 := by rw [hM2 r.c, if_neg (fun h => hb0 (of_decide_eq_true h.1)), ho]
          have hf4 : finishE (rowOf M2 r.c) r = 4 := by rw [hr2']; unfold finishE; rw [if_pos hmay]; simp [hne]
          have hr3 : rowOf M3 r.c = some x0 := by rw [hM3 r.c, hf4, hr2']; simp
          have hrp : replyV (rowOf M3 r.c) r.n = [.agg ⟨[.int .i64 0, .int .i64 0, .bool false, .int .i64 0, .int .i64 0, .int .i64 0]⟩, .bool false] := by rw [hr3]; simp [replyV, Rp.cells, Rp.zero, hne]
          rw [hrp]
          simp (maxSteps := 4000000) (maxDischargeDepth := 8) only [WC_seq, WC_region, WC_cond, WC_skip, contS_normal, contB_normal, contR_ap, contL_normal, WO_nil, WO_pp, WO_g, gateO_tt, gateO_ft, gateO_ff, condC_false, contO_ap, atS_ap, atD_ap, W_some, W_mv, W_pick, W_bin, W_ext, W_st, W_alloc, dpure, dbin, dint, ev_tmp, ev_const, putT_some, putT_none, get_put_eq, get_put_ne, not_false_eq_true, Option.getD_some, getN, Nat.zero_add, Nat.reduceAdd, st_wr, cells_agg, List.length_cons, List.length_nil, allOne, oneCellD, Bool.and_self, Bool.and_true, Nat.beq_eq, Nat.ble_eq, Nat.le_refl, if_true, if_false, Bool.not_true, Bool.false_eq_true, DS.wrC, Cells.size, Cells.fillFrom, Cells.set, setN, List.nil_append, DS.upd_next, nextN, wrN, decide_true, decide_false, Int.reduceEq, gateO_un, get_new_at, good_new, good_at, eq_lt, eq_gt, Nat.reduceLT, Nat.lt_add_one, g0, g3, g4, gq5, hl5, hG5, hb1, hf4, W_eq, hoo, w1]
          exact hfin _ _ (XN5 _ _) ⟨by simp (maxSteps := 4000000) only [get_put_ne, not_false_eq_true, reduceCtorEq, g0, hv0], by simp (maxSteps := 4000000) only [get_put_ne, Nat.reduceEqDiff, not_false_eq_true, g3], by simp (maxSteps := 4000000) only [get_put_eq]⟩
        · obtain ⟨q, b, hrp⟩ : ∃ (q : Rp) (b : Bool), replyV (rowOf M3 r.c) r.n = [.agg ⟨[.int .i64 q.c, .int .i64 q.n, .bool q.rej, .int .i64 q.trap, .int .i64 q.v, .int .i64 q.gas]⟩, .bool b] := by
            unfold replyV
            cases rowOf M3 r.c with
            | none => exact ⟨Rp.zero, false, rfl⟩
            | some x0 =>
              simp only
              split
              · exact ⟨x0.rep, true, rfl⟩
              · exact ⟨Rp.zero, false, rfl⟩
          rw [hrp]
          simp (maxSteps := 4000000) (maxDischargeDepth := 8) only [WC_seq, WC_region, WC_cond, WC_skip, contS_normal, contB_normal, contR_ap, contL_normal, WO_nil, WO_pp, WO_g, gateO_ft, gateO_ff, condC_false, contO_ap, atS_ap, atD_ap, W_some, W_mv, W_pick, W_bin, W_ext, W_st, W_alloc, dpure, dbin, dint, ev_tmp, ev_const, putT_some, putT_none, get_put_eq, get_put_ne, not_false_eq_true, Option.getD_some, getN, Nat.zero_add, Nat.reduceAdd, st_wr, cells_agg, List.length_cons, List.length_nil, allOne, oneCellD, Bool.and_self, Bool.and_true, Nat.beq_eq, Nat.ble_eq, Nat.le_refl, if_true, if_false, Bool.false_eq_true, DS.wrC, Cells.size, Cells.fillFrom, Cells.set, setN, List.nil_append, DS.upd_next, nextN, wrN, decide_false, gateO_un, get_new_at, good_new, good_at, eq_lt, eq_gt, Nat.reduceLT, Nat.lt_add_one, g0, g3, g4, gq5, hl5, hG5, hb0, hb1, w1]
          exact hfin _ _ (XN5 _ _) ⟨by simp (maxSteps := 4000000) only [get_put_ne, not_false_eq_true, reduceCtorEq, g0, hv0], by simp (maxSteps := 4000000) only [get_put_ne, Nat.reduceEqDiff, not_false_eq_true, g3], by simp (maxSteps := 4000000) only [get_put_eq]⟩
    · rw [decide_eq_false hmay]
      have hf1 : finishE (rowOf M2 r.c) r = 1 := by unfold finishE; rw [if_neg hmay]
      simp (maxSteps := 4000000) (maxDischargeDepth := 8) only [WC_seq, WC_region, WC_cond, WC_skip, WC_exit, contS_normal, contS_exit, contB_exit, contR_ap, contL_normal, WO_nil, WO_pp, condC_true, condC_false, contO_ap, atS_ap, W_some, W_mv, W_bin, W_un, dpure, dbin, dint, ev_tmp, ev_const, putT_some, get_put_eq, get_put_ne, not_false_eq_true, Option.getD_some, if_true, Bool.not_true, Bool.not_false, decide_true, eq_lt, Nat.reduceLT, Nat.lt_add_one, g0, g3, g4, gq4, hf1, w1]
      exact ⟨101 - (i + 1), by omega, ⟨i + 1, M3, clock3, rfl, by omega, by omega, rfl, by simp (maxSteps := 4000000) only [get_put_eq, get_put_ne, Nat.reduceEqDiff, not_false_eq_true, Bool.and_self, and_self, reduceCtorEq, g0, g3, g4, hv0], c4, X04⟩⟩
  · have hvl : ∃ a c, v0 = .slice a l.length c := by
      rcases hr with ⟨rfl, rfl⟩ | ⟨b, c, rfl, _⟩
      · exact ⟨_, _, rfl⟩
      · exact ⟨_, _, rfl⟩
    obtain ⟨a, cc, hv0⟩ := hvl
    rw [hv0] at g0
    by_cases c2 : (i : Int) < (l.length : Int)
    · have c3 : ¬ (i : Int) < 100 := by omega
      simp (maxSteps := 4000000) only [WC_seq, WC_region, WC_cond, WC_ret, WC_exit, contS_normal, contS_exit, contB_exit, contR_ap, contL_exit, WO_nil, WO_pp, WO_g, gateO_tt, condC_false, contO_ap, atS_ap, W_some, W_mv, W_pick, W_bin, W_blenL, dpure, dbin, dint, Ends_ret, ev_tmp, ev_const, putT_some, get_put_eq, get_put_ne, Nat.reduceEqDiff, not_false_eq_true, Option.getD_some, dresults, tupled, if_true, reduceCtorEq, decide_true, decide_false, g0, g3, g4, c2, c3]
    · simp (maxSteps := 4000000) only [WC_seq, WC_region, WC_cond, WC_ret, WC_exit, contS_normal, contS_exit, contB_exit, contR_ap, contL_exit, WO_nil, WO_pp, WO_g, gateO_ft, condC_false, contO_ap, atS_ap, W_some, W_mv, W_pick, W_bin, W_blenL, dpure, dbin, dint, Ends_ret, ev_tmp, ev_const, putT_some, get_put_eq, get_put_ne, Nat.reduceEqDiff, not_false_eq_true, Option.getD_some, dresults, tupled, if_true, if_false, reduceCtorEq, Bool.false_eq_true, List.nil_append, decide_false, g0, g3, g4, c2]
end
end Go.Dx.TbA
