/- InterpDeep returns true for every input, and leaves what it was given as it was. -/
import Derived.Test.YtcffoamfpokcpaaGreatRows
import Derived.Test.YtcffoamfpokcpaaGreatDxDs
import Derived.Test.YtcffoamfpokcpaaGreatDxRow
import Derived.Test.YtcffoamfpokcpaaGreatDxF
namespace Go.Proofs.YtcffoamfpokcpaaGreat.interpDeep
open Go.ChangeShapes Go.WideShapes Go.ChangeAt Go.RowKit Go.Dx Go.Shelf
set_option linter.unusedVariables false
set_option linter.unusedSimpArgs false
set_option maxRecDepth 100000
set_option maxHeartbeats 4000000

/-! ### The evaluator's tables -/
inductive BT where
  | leaf
  | node (k : Nat) (d : DFunc) (l r : BT)
def BT.find : BT → Nat → Option DFunc
  | .leaf, _ => none
  | .node k d l r, x => bif Nat.beq x k then some d else bif Nat.blt x k then l.find x else r.find x
def BT.All (Q : Nat → DFunc → Prop) : BT → Prop
  | .leaf => True
  | .node k d l r => Q k d ∧ l.All Q ∧ r.All Q
theorem BT.find_all {Q : Nat → DFunc → Prop} : ∀ {t : BT} {x : Nat} {d : DFunc}, t.All Q → t.find x = some d → Q x d
  | .leaf, x, d, _, h => by cases h
  | .node k d0 l r, x, d, ⟨h1, h2, h3⟩, h => by
    unfold BT.find at h
    cases hb : Nat.beq x k with
    | true =>
      rw [hb] at h
      simp only [cond_true, Option.some.injEq] at h
      subst h
      rw [Nat.eq_of_beq_eq_true hb]; exact h1
    | false =>
      rw [hb] at h
      cases hl : Nat.blt x k with
      | true => rw [hl] at h; exact BT.find_all h2 h
      | false => rw [hl] at h; exact BT.find_all h3 h
def FnOk (k : Nat) (df : DFunc) : Prop := ∃ f, Tryz.prog.funcs[k]? = some f ∧ trFunc Tryz.prog f = some df
def tab : BT := (.node 52 d52 (.node 27 d27 (.node 13 d13 (.node 8 d8 (.node 5 d5 (.node 4 d4 (.node 3 d3 .leaf .leaf) .leaf) (.node 7 d7 (.node 6 d6 .leaf .leaf) .leaf)) (.node 11 d11 (.node 10 d10 (.node 9 d9 .leaf .leaf) .leaf) (.node 12 d12 .leaf .leaf))) (.node 19 d19 (.node 16 d16 (.node 15 d15 (.node 14 d14 .leaf .leaf) .leaf) (.node 18 d18 (.node 17 d17 .leaf .leaf) .leaf)) (.node 24 d24 (.node 23 d23 (.node 20 d20 .leaf .leaf) .leaf) (.node 26 d26 .leaf .leaf)))) (.node 38 d38 (.node 33 d33 (.node 30 d30 (.node 29 d29 (.node 28 d28 .leaf .leaf) .leaf) (.node 32 d32 (.node 31 d31 .leaf .leaf) .leaf)) (.node 36 d36 (.node 35 d35 (.node 34 d34 .leaf .leaf) .leaf) (.node 37 d37 .leaf .leaf))) (.node 47 d47 (.node 41 d41 (.node 40 d40 (.node 39 d39 .leaf .leaf) .leaf) (.node 43 d43 (.node 42 d42 .leaf .leaf) .leaf)) (.node 50 d50 (.node 49 d49 (.node 48 d48 .leaf .leaf) .leaf) (.node 51 d51 .leaf .leaf))))) (.node 76 d76 (.node 63 d63 (.node 58 d58 (.node 55 d55 (.node 54 d54 (.node 53 d53 .leaf .leaf) .leaf) (.node 57 d57 (.node 56 d56 .leaf .leaf) .leaf)) (.node 61 d61 (.node 60 d60 (.node 59 d59 .leaf .leaf) .leaf) (.node 62 d62 .leaf .leaf))) (.node 69 d69 (.node 66 d66 (.node 65 d65 (.node 64 d64 .leaf .leaf) .leaf) (.node 68 d68 (.node 67 d67 .leaf .leaf) .leaf)) (.node 73 d73 (.node 72 d72 (.node 70 d70 .leaf .leaf) .leaf) (.node 75 d75 .leaf .leaf)))) (.node 95 d95 (.node 83 d83 (.node 79 d79 (.node 78 d78 (.node 77 d77 .leaf .leaf) .leaf) (.node 82 d82 (.node 81 d81 .leaf .leaf) .leaf)) (.node 93 d93 (.node 85 d85 (.node 84 d84 .leaf .leaf) .leaf) (.node 94 d94 .leaf .leaf))) (.node 108 d108 (.node 98 d98 (.node 97 d97 (.node 96 d96 .leaf .leaf) .leaf) (.node 100 d100 (.node 99 d99 .leaf .leaf) .leaf)) (.node 111 d111 (.node 110 d110 (.node 109 d109 .leaf .leaf) .leaf) (.node 117 d117 .leaf .leaf))))))
theorem tab_ok : tab.All FnOk := ⟨⟨_, Tryz.func52, tr52⟩, ⟨⟨_, Tryz.func27, tr27⟩, ⟨⟨_, Tryz.func13, tr13⟩, ⟨⟨_, Tryz.func8, tr8⟩, ⟨⟨_, Tryz.func5, tr5⟩, ⟨⟨_, Tryz.func4, tr4⟩, ⟨⟨_, Tryz.func3, tr3⟩, trivial, trivial⟩, trivial⟩, ⟨⟨_, Tryz.func7, tr7⟩, ⟨⟨_, Tryz.func6, tr6⟩, trivial, trivial⟩, trivial⟩⟩, ⟨⟨_, Tryz.func11, tr11⟩, ⟨⟨_, Tryz.func10, tr10⟩, ⟨⟨_, Tryz.func9, tr9⟩, trivial, trivial⟩, trivial⟩, ⟨⟨_, Tryz.func12, tr12⟩, trivial, trivial⟩⟩⟩, ⟨⟨_, Tryz.func19, tr19⟩, ⟨⟨_, Tryz.func16, tr16⟩, ⟨⟨_, Tryz.func15, tr15⟩, ⟨⟨_, Tryz.func14, tr14⟩, trivial, trivial⟩, trivial⟩, ⟨⟨_, Tryz.func18, tr18⟩, ⟨⟨_, Tryz.func17, tr17⟩, trivial, trivial⟩, trivial⟩⟩, ⟨⟨_, Tryz.func24, tr24⟩, ⟨⟨_, Tryz.func23, tr23⟩, ⟨⟨_, Tryz.func20, tr20⟩, trivial, trivial⟩, trivial⟩, ⟨⟨_, Tryz.func26, tr26⟩, trivial, trivial⟩⟩⟩⟩, ⟨⟨_, Tryz.func38, tr38⟩, ⟨⟨_, Tryz.func33, tr33⟩, ⟨⟨_, Tryz.func30, tr30⟩, ⟨⟨_, Tryz.func29, tr29⟩, ⟨⟨_, Tryz.func28, tr28⟩, trivial, trivial⟩, trivial⟩, ⟨⟨_, Tryz.func32, tr32⟩, ⟨⟨_, Tryz.func31, tr31⟩, trivial, trivial⟩, trivial⟩⟩, ⟨⟨_, Tryz.func36, tr36⟩, ⟨⟨_, Tryz.func35, tr35⟩, ⟨⟨_, Tryz.func34, tr34⟩, trivial, trivial⟩, trivial⟩, ⟨⟨_, Tryz.func37, tr37⟩, trivial, trivial⟩⟩⟩, ⟨⟨_, Tryz.func47, tr47⟩, ⟨⟨_, Tryz.func41, tr41⟩, ⟨⟨_, Tryz.func40, tr40⟩, ⟨⟨_, Tryz.func39, tr39⟩, trivial, trivial⟩, trivial⟩, ⟨⟨_, Tryz.func43, tr43⟩, ⟨⟨_, Tryz.func42, tr42⟩, trivial, trivial⟩, trivial⟩⟩, ⟨⟨_, Tryz.func50, tr50⟩, ⟨⟨_, Tryz.func49, tr49⟩, ⟨⟨_, Tryz.func48, tr48⟩, trivial, trivial⟩, trivial⟩, ⟨⟨_, Tryz.func51, tr51⟩, trivial, trivial⟩⟩⟩⟩⟩, ⟨⟨_, Tryz.func76, tr76⟩, ⟨⟨_, Tryz.func63, tr63⟩, ⟨⟨_, Tryz.func58, tr58⟩, ⟨⟨_, Tryz.func55, tr55⟩, ⟨⟨_, Tryz.func54, tr54⟩, ⟨⟨_, Tryz.func53, tr53⟩, trivial, trivial⟩, trivial⟩, ⟨⟨_, Tryz.func57, tr57⟩, ⟨⟨_, Tryz.func56, tr56⟩, trivial, trivial⟩, trivial⟩⟩, ⟨⟨_, Tryz.func61, tr61⟩, ⟨⟨_, Tryz.func60, tr60⟩, ⟨⟨_, Tryz.func59, tr59⟩, trivial, trivial⟩, trivial⟩, ⟨⟨_, Tryz.func62, tr62⟩, trivial, trivial⟩⟩⟩, ⟨⟨_, Tryz.func69, tr69⟩, ⟨⟨_, Tryz.func66, tr66⟩, ⟨⟨_, Tryz.func65, tr65⟩, ⟨⟨_, Tryz.func64, tr64⟩, trivial, trivial⟩, trivial⟩, ⟨⟨_, Tryz.func68, tr68⟩, ⟨⟨_, Tryz.func67, tr67⟩, trivial, trivial⟩, trivial⟩⟩, ⟨⟨_, Tryz.func73, tr73⟩, ⟨⟨_, Tryz.func72, tr72⟩, ⟨⟨_, Tryz.func70, tr70⟩, trivial, trivial⟩, trivial⟩, ⟨⟨_, Tryz.func75, tr75⟩, trivial, trivial⟩⟩⟩⟩, ⟨⟨_, Tryz.func95, tr95⟩, ⟨⟨_, Tryz.func83, tr83⟩, ⟨⟨_, Tryz.func79, tr79⟩, ⟨⟨_, Tryz.func78, tr78⟩, ⟨⟨_, Tryz.func77, tr77⟩, trivial, trivial⟩, trivial⟩, ⟨⟨_, Tryz.func82, tr82⟩, ⟨⟨_, Tryz.func81, tr81⟩, trivial, trivial⟩, trivial⟩⟩, ⟨⟨_, Tryz.func93, tr93⟩, ⟨⟨_, Tryz.func85, tr85⟩, ⟨⟨_, Tryz.func84, tr84⟩, trivial, trivial⟩, trivial⟩, ⟨⟨_, Tryz.func94, tr94⟩, trivial, trivial⟩⟩⟩, ⟨⟨_, Tryz.func108, tr108⟩, ⟨⟨_, Tryz.func98, tr98⟩, ⟨⟨_, Tryz.func97, tr97⟩, ⟨⟨_, Tryz.func96, tr96⟩, trivial, trivial⟩, trivial⟩, ⟨⟨_, Tryz.func100, tr100⟩, ⟨⟨_, Tryz.func99, tr99⟩, trivial, trivial⟩, trivial⟩⟩, ⟨⟨_, Tryz.func111, tr111⟩, ⟨⟨_, Tryz.func110, tr110⟩, ⟨⟨_, Tryz.func109, tr109⟩, trivial, trivial⟩, trivial⟩, ⟨⟨_, Tryz.func117, tr117⟩, trivial, trivial⟩⟩⟩⟩⟩⟩

def env : Env := { fn := tab.find, intr := fun _ => none, lf := 100000 }
theorem env_ok : EnvOk Tryz.prog env := ⟨by kernel_rfl, fun k df h => BT.find_all tab_ok h, fun k F h => by cases h⟩
theorem runsL : okOf (xcall env 200 (.func (.func 4) #[] #[]) [] s0) = true := by kernel_rfl
theorem livesL (W : World) : Calls Tryz.prog 4 #[] W fun e w' => e = .returned (.bool true) ∧ Kept W w' := top env_ok runsL (fun _ => .nil) W
noncomputable def env2 : Env := { fn := tab.find, intr := fun k => bif Nat.beq k 4 then some trueD else env.intr k, lf := 100000 }
theorem env2_ok : EnvOk Tryz.prog env2 := by
  refine ⟨env_ok.mixed, fun k df h => BT.find_all tab_ok h, fun k F h => ?_⟩
  have h : (bif Nat.beq k 4 then some trueD else env.intr k) = some F := h
  cases hb : Nat.beq k 4 with
  | true =>
    rw [hb] at h
    simp only [cond_true, Option.some.injEq] at h
    subst h
    rw [Nat.eq_of_beq_eq_true hb]
    exact trueD_ok livesL (fun X w => callFunc_run Tryz.func4 (by kernel_rfl) (by kernel_rfl) X w)
  | false =>
    rw [hb] at h
    simp only [cond_false] at h
    exact env_ok.intr k F h
theorem guardRun (n : Int) (h : n < 0 ∨ (¬ n < 0 ∧ n > 100)) : W (dcall env2 200 (.func (.func 3) #[] #[]) [.int .i64 n] s0) fun r => r.1 = .bool true := by
  have lv : ∀ dd s, dcall env2 (dd + 1) (.func (.func 4) #[] #[]) [] s = some (.bool true, s) := fun _ _ => intr_run (h := rfl) rfl
  rw [W_enter0 (E := env2) rfl rfl rfl]
  rcases h with h | ⟨h, h2⟩
  · simp (maxSteps := 4000000) only [WC_seq, WC_region, WC_cond, WC_block, WC_skip, WC_ret, WC_exit, contS_normal, contS_ret, contS_exit, contB_normal, contB_ret, contB_exit, contB_other, contR_ap, contL_ret, contL_exit, contL_normal, WO_nil, WO_pp, WO_pn, WO_g, WO_hn, WO_hp, gateO_tt, gateO_tf, gateO_ft, gateO_ff, condC_true, condC_false, contO_ap, contN_ap, contH_ap, contHN_ap, atS_ap, atD_ap, atG_ap, atB_ap, atL_ap, W_some, W_mv, W_pick, W_bin, W_eq1, W_un, W_cvInt, W_nilck, W_build, W_mkf, W_fadr, W_fld, W_ixL, W_ext, W_blenL, W_ld, W_look, W_blenM, W_st, W_alloc, W_box, W_mkmap, W_mupd, W_bdel, W_call, dpure, dbin, dint, dread, dwrite, eqOne, Ends_ret, Ends_normal, ev_tmp, ev_const, ev_func, putT_some, putT_none, get_put_eq, get_put_ne, Nat.reduceEqDiff, not_false_eq_true, ofList_get, List.getElem?_cons_zero, List.getElem?_cons_succ, Option.getD_some, dresults, tupled, List.map_cons, List.map_nil, ldV_at, Cells.get, getN, Nat.zero_add, Nat.reduceAdd, st_wr, cells_int, cells_bool, cells_str, cells_ptr, cells_slice, cells_map, cells_func, cells_agg, List.length_cons, List.length_nil, allOne, oneCellD, Bool.and_self, Bool.and_true, Bool.true_and, Bool.and_eq_true, Nat.beq_eq, Nat.ble_eq, Nat.blt_eq, Nat.reduceLeDiff, Nat.le_refl, and_self, and_true, true_and, if_true, if_false, ite_true, ite_false, reduceCtorEq, Bool.not_true, Bool.not_false, Bool.false_eq_true, DS.wrC, Cells.size, Cells.fillFrom, Cells.set, setN, fillParts, List.take_zero, List.take_succ_cons, List.drop_succ_cons, List.drop_zero, List.nil_append, List.cons_append, List.take_nil, List.drop_nil, List.append_nil, pp, pv, pw, pg, DS.upd_get_self, DS.upd_get_ne, DS.upd_next, DS.upd_wr, DS.upd_vis, Option.map_some, Option.isSome_some, DS.set_upd, nextN, wrN, visN, nextM, nextU, wrU, W_slV, W_app, W_bslice, Option.map_none, repeatZ, Nat.reduceMul, W_atL, atL_ap, W_ldA, ldA, unmask_mask, hidden_nil, List.length_append, setParams_nil, setParams_cons, Nat.add_zero, asIdx_cast, Nat.mul_one, Nat.zero_mul, decide_true, decide_false, List.toList_toArray, eq_self, Int.reduceEq, Int.reduceLT, Int.reduceLE, Option.isNone_none, Option.isNone_some, foot, mask_get, hidden, noteAt, Bool.or_false, Bool.false_and, DS.read, Cells.take, W_ixA, W_slA, W_idxA, W_idxS, W_blenA, W_bmin, W_bmax, W_cvStr, W_cvToStr, W_slS, W_blenS, W_bcapL, gateO_un, d3, h, lv]
  · simp (maxSteps := 4000000) only [WC_seq, WC_region, WC_cond, WC_block, WC_skip, WC_ret, WC_exit, contS_normal, contS_ret, contS_exit, contB_normal, contB_ret, contB_exit, contB_other, contR_ap, contL_ret, contL_exit, contL_normal, WO_nil, WO_pp, WO_pn, WO_g, WO_hn, WO_hp, gateO_tt, gateO_tf, gateO_ft, gateO_ff, condC_true, condC_false, contO_ap, contN_ap, contH_ap, contHN_ap, atS_ap, atD_ap, atG_ap, atB_ap, atL_ap, W_some, W_mv, W_pick, W_bin, W_eq1, W_un, W_cvInt, W_nilck, W_build, W_mkf, W_fadr, W_fld, W_ixL, W_ext, W_blenL, W_ld, W_look, W_blenM, W_st, W_alloc, W_box, W_mkmap, W_mupd, W_bdel, W_call, dpure, dbin, dint, dread, dwrite, eqOne, Ends_ret, Ends_normal, ev_tmp, ev_const, ev_func, putT_some, putT_none, get_put_eq, get_put_ne, Nat.reduceEqDiff, not_false_eq_true, ofList_get, List.getElem?_cons_zero, List.getElem?_cons_succ, Option.getD_some, dresults, tupled, List.map_cons, List.map_nil, ldV_at, Cells.get, getN, Nat.zero_add, Nat.reduceAdd, st_wr, cells_int, cells_bool, cells_str, cells_ptr, cells_slice, cells_map, cells_func, cells_agg, List.length_cons, List.length_nil, allOne, oneCellD, Bool.and_self, Bool.and_true, Bool.true_and, Bool.and_eq_true, Nat.beq_eq, Nat.ble_eq, Nat.blt_eq, Nat.reduceLeDiff, Nat.le_refl, and_self, and_true, true_and, if_true, if_false, ite_true, ite_false, reduceCtorEq, Bool.not_true, Bool.not_false, Bool.false_eq_true, DS.wrC, Cells.size, Cells.fillFrom, Cells.set, setN, fillParts, List.take_zero, List.take_succ_cons, List.drop_succ_cons, List.drop_zero, List.nil_append, List.cons_append, List.take_nil, List.drop_nil, List.append_nil, pp, pv, pw, pg, DS.upd_get_self, DS.upd_get_ne, DS.upd_next, DS.upd_wr, DS.upd_vis, Option.map_some, Option.isSome_some, DS.set_upd, nextN, wrN, visN, nextM, nextU, wrU, W_slV, W_app, W_bslice, Option.map_none, repeatZ, Nat.reduceMul, W_atL, atL_ap, W_ldA, ldA, unmask_mask, hidden_nil, List.length_append, setParams_nil, setParams_cons, Nat.add_zero, asIdx_cast, Nat.mul_one, Nat.zero_mul, decide_true, decide_false, List.toList_toArray, eq_self, Int.reduceEq, Int.reduceLT, Int.reduceLE, Option.isNone_none, Option.isNone_some, foot, mask_get, hidden, noteAt, Bool.or_false, Bool.false_and, DS.read, Cells.take, W_ixA, W_slA, W_idxA, W_idxS, W_blenA, W_bmin, W_bmax, W_cvStr, W_cvToStr, W_slS, W_blenS, W_bcapL, gateO_un, d3, h, h2, lv]
end Go.Proofs.YtcffoamfpokcpaaGreat.interpDeep
