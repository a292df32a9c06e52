/- What the functions of the reference cache do (made by tools/gen.py out of refc.t). -/
import Derived.Test.YtlcgbhpemkomkaaDxCk
import Derived.Test.YtlcgbhpemkomkaaDxF
set_option linter.unusedVariables false
set_option linter.unusedSimpArgs false
set_option linter.unusedSectionVars false
set_option maxRecDepth 100000
set_option maxHeartbeats 4000000
namespace Go.Dx.CaS
open Go Go.Dx Go.Proofs.Ytlcgbhpemkomkaa

/-! ### Lists of items -/
abbrev Item := ByteArray × Int
def fidx (k : ByteArray) : List Item → Option Nat
  | [] => none
  | x :: l => if x.1 = k then some 0 else (fidx k l).map (· + 1)
theorem fidx_some {k : ByteArray} : ∀ {L : List Item} {i : Nat} {x : Item}, (∀ j y, j < i → L[j]? = some y → y.1 ≠ k) → L[i]? = some x → x.1 = k → fidx k L = some i
  | [], i, x, _, h, _ => by simp at h
  | z :: L, 0, x, _, h, hk => by simp at h; subst h; simp [fidx, hk]
  | z :: L, i + 1, x, hn, h, hk => by
    have h1 := hn 0 z (Nat.succ_pos _) rfl
    have h2 := fidx_some (L := L) (i := i) (x := x) (fun j y hj hy => hn (j + 1) y (by omega) (by simpa using hy)) (by simpa using h) hk
    simp [fidx, h1, h2]
theorem fidx_none {k : ByteArray} : ∀ {L : List Item}, (∀ (j : Nat) (y : Item), L[j]? = some y → y.1 ≠ k) → fidx k L = none
  | [], _ => rfl
  | z :: L, hn => by
    have h1 := hn 0 z rfl
    have h2 := fidx_none (L := L) (fun j y hy => hn (j + 1) y (by simpa using hy))
    simp [fidx, h1, h2]
theorem fidx_lt {k : ByteArray} : ∀ {L : List Item} {i : Nat}, fidx k L = some i → ∃ x, L[i]? = some x ∧ x.1 = k
  | [], i, h => by simp [fidx] at h
  | z :: L, i, h => by
    unfold fidx at h
    split at h
    · rename_i e; cases h; exact ⟨z, rfl, e⟩
    · cases h1 : fidx k L with
      | none => rw [h1] at h; cases h
      | some j =>
        rw [h1] at h
        cases h
        obtain ⟨x, h2, h3⟩ := fidx_lt h1
        exact ⟨x, by simpa using h2, h3⟩
def posI : Option Nat → Int
  | some i => (i : Int)
  | none => -1
def row (x : Item) : List Value := [.string x.1, .int .i64 x.2]
def rows (L : List Item) : List (List Value) := L.map row
theorem rows_ok (L : List Item) : RowsOk 2 (rows L) := ⟨fun x hx => by obtain ⟨y, _, rfl⟩ := List.mem_map.1 hx; rfl, fun x hx => by obtain ⟨y, _, rfl⟩ := List.mem_map.1 hx; rfl⟩
theorem rows_len (L : List Item) : (rows L).length = L.length := List.length_map ..
theorem rows_at {L : List Item} {i : Nat} {x : Item} (h : L[i]? = some x) : (rows L)[i]? = some (row x) := by simp [rows, h]
theorem rows_get0 {L : List Item} {i : Nat} {x : Item} (h : L[i]? = some x) : getN (rows L).flatten (i * 2) = some (.string x.1) := by
  have := flatten_get (n := 2) (j := 0) (rows_ok L).len (rows_at h) (show (row x)[0]? = some (.string x.1) from rfl)
  simpa using this
theorem rows_get1 {L : List Item} {i : Nat} {x : Item} (h : L[i]? = some x) : getN (rows L).flatten (i * 2 + 1) = some (.int .i64 x.2) :=
  flatten_get (n := 2) (j := 1) (rows_ok L).len (rows_at h) (show (row x)[1]? = some (.int .i64 x.2) from rfl)
theorem rows_take {L : List Item} {i : Nat} {x : Item} (h : L[i]? = some x) : (Cells.list (rows L).flatten).take (i * 2) 2 = some [.string x.1, .int .i64 x.2] := by
  have hi := (List.getElem?_eq_some_iff.1 h).1
  have hf := (rows_ok L).flat
  rw [rows_len] at hf
  rw [take_list _ _ _ (by omega), flatten_drop i (rows_ok L).len]
  have h1 := rows_at h
  have h2 := (List.getElem?_eq_some_iff.1 h1).1
  rw [List.drop_eq_getElem_cons h2]
  have : (rows L)[i] = row x := by have := List.getElem?_eq_getElem h2; rw [h1] at this; exact (Option.some.inj this).symm
  rw [this, List.flatten_cons, List.take_append, List.take_of_length_le (by simp [row])]
  simp [row]
theorem bytesEq_ba (a b : ByteArray) : bytesEq a.data.toList b.data.toList = decide (a = b) := by
  rw [bytesEq_eq]
  by_cases h : a = b
  · simp [h]
  · have : ¬ a.data = b.data := fun e => h (ByteArray.ext e)
    simp [h, this]

structure Refs (E : Env) : Prop where
  f28 : E.fn 28 = some d28
  i28 : E.intr 28 = none
  f29 : E.fn 29 = some d29
  i29 : E.intr 29 = none
  f10 : E.fn 10 = some d10
  i10 : E.intr 10 = none
  f12 : E.fn 12 = some d12
  i12 : E.intr 12 = none
  f14 : E.fn 14 = some d14
  i14 : E.intr 14 = none
  f16 : E.fn 16 = some d16
  i16 : E.intr 16 = none
  fr : ∀ d, CallFrame (dcall E d)
/-- a reference cache in memory -/
structure RefAt (s : DS) (q : Nat) (v : Value) (L : List Item) (room h ms : Int) : Prop where
  gq : s.get q = some (.cells (.list [v, .int .i64 room, .int .i64 h, .int .i64 ms]) false)
  wq : s.wr q = true
  sl : SlX s 2 v (rows L)
  ne : q ∉ blk v
section
variable {s s' : DS} {q : Nat} {v : Value} {L : List Item} {room h ms : Int} {F : List Nat}
theorem RefAt.keep (c : RefAt s q v L room h ms) (e : Ext F s s') (hq : q ∉ F) (hb : ∀ k, k ∈ blk v → k ∉ F) : RefAt s' q v L room h ms :=
  ⟨e.keep c.gq hq, e.wrs c.wq, c.sl.keep e hb, c.ne⟩
theorem RefAt.mask {nt : List Note} {haz : List Nat} (c : RefAt s q v L room h ms) (hq : ∀ k, k ∈ q :: blk v → hidden nt haz k = false ∧ shielded nt haz k = false) : RefAt (mask s nt haz) q v L room h ms := by
  have h1 := hq q (List.mem_cons_self ..)
  refine ⟨by rw [mask_get h1.1]; exact c.gq, mask_wr c.wq h1.1 h1.2, ?_, c.ne⟩
  rcases c.sl with h | ⟨b, sp, rfl, h2, h3, h4⟩
  · exact .inl h
  · have h5 := hq b (by simp [blk])
    exact .inr ⟨b, sp, rfl, h2, by rw [mask_get h5.1]; exact h3, mask_wr h4 h5.1 h5.2⟩
structure FindI (s : DS) (q : Nat) (L : List Item) (k : ByteArray) (n : Nat) (x : St) : Prop where
  ex : ∃ i : Nat, n = L.length - i ∧ i ≤ L.length ∧ x.s = s ∧ x.defers = [] ∧ (x.t.get 0 = some (.pointer (some ⟨q, 0, none⟩)) ∧ x.t.get 1 = some (.string k) ∧ x.t.get 5 = some (.int .i64 (i : Int))) ∧ ∀ (j : Nat) (y : Item), j < i → L[j]? = some y → y.1 ≠ k
variable {E : Env} (hE : Refs E) {d : Nat}
include hE
theorem find_ok (hlf : L.length < E.lf) (hl : L.length < 1000000) (c : RefAt s q v L room h ms) (k : ByteArray) : dcall E (d + 1) (.func (.func 28) #[] #[]) [.pointer (some ⟨q, 0, none⟩), .string k] s = some (.int .i64 (posI (fidx k L)), s) := by
  have gq := c.gq
  obtain ⟨a, hv⟩ := c.sl.shape
  rw [rows_len] at hv
  have w1 : dwrap .i64 (0 - 1) = -1 := by decide
  rw [← W_iff, W_enter0 hE.i28 hE.f28 rfl]
  simp (maxSteps := 4000000) only [WC_seq, WC_region, WC_cond, WC_block, WC_skip, WC_ret, WC_exit, contS_normal, contS_ret, contS_exit, contB_normal, contB_ret, contB_exit, contB_other, contR_ap, contL_ret, contL_exit, contL_normal, WO_nil, WO_pp, WO_pn, WO_g, WO_hn, WO_hp, gateO_tt, gateO_tf, gateO_ft, gateO_ff, condC_true, condC_false, contO_ap, contN_ap, contH_ap, contHN_ap, atS_ap, atD_ap, atG_ap, atB_ap, atL_ap, W_some, W_mv, W_pick, W_bin, W_eq1, W_un, W_cvInt, W_nilck, W_build, W_mkf, W_fadr, W_fld, W_ixL, W_ext, W_blenL, W_ld, W_look, W_blenM, W_st, W_alloc, W_box, W_mkmap, W_mupd, W_bdel, W_call, dpure, dbin, dint, dread, dwrite, eqOne, Ends_ret, Ends_normal, ev_tmp, ev_const, ev_func, putT_some, putT_none, get_put_eq, get_put_ne, Nat.reduceEqDiff, not_false_eq_true, ofList_get, List.getElem?_cons_zero, List.getElem?_cons_succ, Option.getD_some, dresults, tupled, List.map_cons, List.map_nil, ldV_at, Cells.get, getN, Nat.zero_add, Nat.reduceAdd, st_wr, cells_int, cells_bool, cells_str, cells_ptr, cells_slice, cells_map, cells_func, cells_agg, List.length_cons, List.length_nil, allOne, oneCellD, Bool.and_self, Bool.and_true, Bool.true_and, Bool.and_eq_true, Nat.beq_eq, Nat.ble_eq, Nat.blt_eq, Nat.reduceLeDiff, Nat.le_refl, and_self, and_true, true_and, if_true, if_false, ite_true, ite_false, reduceCtorEq, Bool.not_true, Bool.not_false, Bool.false_eq_true, DS.wrC, Cells.size, Cells.fillFrom, Cells.set, setN, fillParts, List.take_zero, List.take_succ_cons, List.drop_succ_cons, List.drop_zero, List.nil_append, List.cons_append, List.take_nil, List.drop_nil, List.append_nil, pp, pv, pw, pg, DS.upd_get_self, DS.upd_get_ne, DS.upd_next, DS.upd_wr, DS.upd_vis, DS.new_next, DS.new_wr, DS.new_vis, Option.map_some, Option.isSome_some, DS.set_upd, W_slV, W_app, W_bslice, Option.map_none, repeatZ, Nat.reduceMul, W_atL, atL_ap, W_ldA, ldA, unmask_mask, hidden_nil, List.length_append, setParams_nil, setParams_cons, Nat.add_zero, asIdx_cast, Nat.mul_one, Nat.zero_mul, decide_true, decide_false, List.toList_toArray, eq_self, Int.reduceEq, Int.reduceLT, Int.reduceLE, Option.isNone_none, Option.isNone_some, foot, mask_next, unmask_next, mask_get, hidden, noteAt, Bool.or_false, Bool.false_and, DS.read, Cells.take, d28]
  refine WC_loop (FindI s q L k) L.length hlf ⟨0, rfl, Nat.zero_le _, rfl, rfl, ?_, fun j y hj => absurd hj (Nat.not_lt_zero _)⟩ ?_
  · simp (maxSteps := 4000000) only [WC_seq, WC_region, WC_cond, WC_block, WC_skip, WC_ret, WC_exit, contS_normal, contS_ret, contS_exit, contB_normal, contB_ret, contB_exit, contB_other, contR_ap, contL_ret, contL_exit, contL_normal, WO_nil, WO_pp, WO_pn, WO_g, WO_hn, WO_hp, gateO_tt, gateO_tf, gateO_ft, gateO_ff, condC_true, condC_false, contO_ap, contN_ap, contH_ap, contHN_ap, atS_ap, atD_ap, atG_ap, atB_ap, atL_ap, W_some, W_mv, W_pick, W_bin, W_eq1, W_un, W_cvInt, W_nilck, W_build, W_mkf, W_fadr, W_fld, W_ixL, W_ext, W_blenL, W_ld, W_look, W_blenM, W_st, W_alloc, W_box, W_mkmap, W_mupd, W_bdel, W_call, dpure, dbin, dint, dread, dwrite, eqOne, Ends_ret, Ends_normal, ev_tmp, ev_const, ev_func, putT_some, putT_none, get_put_eq, get_put_ne, Nat.reduceEqDiff, not_false_eq_true, ofList_get, List.getElem?_cons_zero, List.getElem?_cons_succ, Option.getD_some, dresults, tupled, List.map_cons, List.map_nil, ldV_at, Cells.get, getN, Nat.zero_add, Nat.reduceAdd, st_wr, cells_int, cells_bool, cells_str, cells_ptr, cells_slice, cells_map, cells_func, cells_agg, List.length_cons, List.length_nil, allOne, oneCellD, Bool.and_self, Bool.and_true, Bool.true_and, Bool.and_eq_true, Nat.beq_eq, Nat.ble_eq, Nat.blt_eq, Nat.reduceLeDiff, Nat.le_refl, and_self, and_true, true_and, if_true, if_false, ite_true, ite_false, reduceCtorEq, Bool.not_true, Bool.not_false, Bool.false_eq_true, DS.wrC, Cells.size, Cells.fillFrom, Cells.set, setN, fillParts, List.take_zero, List.take_succ_cons, List.drop_succ_cons, List.drop_zero, List.nil_append, List.cons_append, List.take_nil, List.drop_nil, List.append_nil, pp, pv, pw, pg, DS.upd_get_self, DS.upd_get_ne, DS.upd_next, DS.upd_wr, DS.upd_vis, DS.new_next, DS.new_wr, DS.new_vis, Option.map_some, Option.isSome_some, DS.set_upd, W_slV, W_app, W_bslice, Option.map_none, repeatZ, Nat.reduceMul, W_atL, atL_ap, W_ldA, ldA, unmask_mask, hidden_nil, List.length_append, setParams_nil, setParams_cons, Nat.add_zero, asIdx_cast, Nat.mul_one, Nat.zero_mul, decide_true, decide_false, List.toList_toArray, eq_self, Int.reduceEq, Int.reduceLT, Int.reduceLE, Option.isNone_none, Option.isNone_some, foot, mask_next, unmask_next, mask_get, hidden, noteAt, Bool.or_false, Bool.false_and, DS.read, Cells.take]
    rfl
  rintro n ⟨t, s2, ds⟩ hn ⟨i, rfl, hi, hs, hds, ⟨g0, g1, g5⟩, hno⟩
  simp only at hs hds g0 g1 g5
  subst hs hds
  by_cases c1 : i < L.length
  · have hx : L[i]? = some L[i] := List.getElem?_eq_getElem c1
    generalize L[i] = x at hx
    have e1 : (i : Int) < (L.length : Int) := by omega
    obtain ⟨b, sp, hv', _, hb, _⟩ := c.sl.at (fun e => by have := rows_len L; rw [e] at this; simp at this; omega)
    rw [rows_len] at hv'
    subst hv'
    have w2 : dwrap .i64 ((i : Int) + 1) = ((i + 1 : Nat) : Int) := by rw [dwrap_in (by omega) (by omega)]; omega
    by_cases c2 : x.1 = k
    · simp (maxSteps := 4000000) only [WC_seq, WC_region, WC_cond, WC_block, WC_skip, WC_ret, WC_exit, contS_normal, contS_ret, contS_exit, contB_normal, contB_ret, contB_exit, contB_other, contR_ap, contL_ret, contL_exit, contL_normal, WO_nil, WO_pp, WO_pn, WO_g, WO_hn, WO_hp, gateO_tt, gateO_tf, gateO_ft, gateO_ff, condC_true, condC_false, contO_ap, contN_ap, contH_ap, contHN_ap, atS_ap, atD_ap, atG_ap, atB_ap, atL_ap, W_some, W_mv, W_pick, W_bin, W_eq1, W_un, W_cvInt, W_nilck, W_build, W_mkf, W_fadr, W_fld, W_ixL, W_ext, W_blenL, W_ld, W_look, W_blenM, W_st, W_alloc, W_box, W_mkmap, W_mupd, W_bdel, W_call, dpure, dbin, dint, dread, dwrite, eqOne, Ends_ret, Ends_normal, ev_tmp, ev_const, ev_func, putT_some, putT_none, get_put_eq, get_put_ne, Nat.reduceEqDiff, not_false_eq_true, ofList_get, List.getElem?_cons_zero, List.getElem?_cons_succ, Option.getD_some, dresults, tupled, List.map_cons, List.map_nil, ldV_at, Cells.get, getN, Nat.zero_add, Nat.reduceAdd, st_wr, cells_int, cells_bool, cells_str, cells_ptr, cells_slice, cells_map, cells_func, cells_agg, List.length_cons, List.length_nil, allOne, oneCellD, Bool.and_self, Bool.and_true, Bool.true_and, Bool.and_eq_true, Nat.beq_eq, Nat.ble_eq, Nat.blt_eq, Nat.reduceLeDiff, Nat.le_refl, and_self, and_true, true_and, if_true, if_false, ite_true, ite_false, reduceCtorEq, Bool.not_true, Bool.not_false, Bool.false_eq_true, DS.wrC, Cells.size, Cells.fillFrom, Cells.set, setN, fillParts, List.take_zero, List.take_succ_cons, List.drop_succ_cons, List.drop_zero, List.nil_append, List.cons_append, List.take_nil, List.drop_nil, List.append_nil, pp, pv, pw, pg, DS.upd_get_self, DS.upd_get_ne, DS.upd_next, DS.upd_wr, DS.upd_vis, DS.new_next, DS.new_wr, DS.new_vis, Option.map_some, Option.isSome_some, DS.set_upd, W_slV, W_app, W_bslice, Option.map_none, repeatZ, Nat.reduceMul, W_atL, atL_ap, W_ldA, ldA, unmask_mask, hidden_nil, List.length_append, setParams_nil, setParams_cons, Nat.add_zero, asIdx_cast, Nat.mul_one, Nat.zero_mul, decide_true, decide_false, List.toList_toArray, eq_self, Int.reduceEq, Int.reduceLT, Int.reduceLE, Option.isNone_none, Option.isNone_some, foot, mask_next, unmask_next, mask_get, hidden, noteAt, Bool.or_false, Bool.false_and, DS.read, Cells.take, g0, g1, g5, gq, hb, e1, decide_true, c1, asIdx_cast, rows_get0 hx, dstr, bytesEq_ba, c2]
      rw [fidx_some hno hx c2]
      rfl
    · simp (maxSteps := 4000000) only [WC_seq, WC_region, WC_cond, WC_block, WC_skip, WC_ret, WC_exit, contS_normal, contS_ret, contS_exit, contB_normal, contB_ret, contB_exit, contB_other, contR_ap, contL_ret, contL_exit, contL_normal, WO_nil, WO_pp, WO_pn, WO_g, WO_hn, WO_hp, gateO_tt, gateO_tf, gateO_ft, gateO_ff, condC_true, condC_false, contO_ap, contN_ap, contH_ap, contHN_ap, atS_ap, atD_ap, atG_ap, atB_ap, atL_ap, W_some, W_mv, W_pick, W_bin, W_eq1, W_un, W_cvInt, W_nilck, W_build, W_mkf, W_fadr, W_fld, W_ixL, W_ext, W_blenL, W_ld, W_look, W_blenM, W_st, W_alloc, W_box, W_mkmap, W_mupd, W_bdel, W_call, dpure, dbin, dint, dread, dwrite, eqOne, Ends_ret, Ends_normal, ev_tmp, ev_const, ev_func, putT_some, putT_none, get_put_eq, get_put_ne, Nat.reduceEqDiff, not_false_eq_true, ofList_get, List.getElem?_cons_zero, List.getElem?_cons_succ, Option.getD_some, dresults, tupled, List.map_cons, List.map_nil, ldV_at, Cells.get, getN, Nat.zero_add, Nat.reduceAdd, st_wr, cells_int, cells_bool, cells_str, cells_ptr, cells_slice, cells_map, cells_func, cells_agg, List.length_cons, List.length_nil, allOne, oneCellD, Bool.and_self, Bool.and_true, Bool.true_and, Bool.and_eq_true, Nat.beq_eq, Nat.ble_eq, Nat.blt_eq, Nat.reduceLeDiff, Nat.le_refl, and_self, and_true, true_and, if_true, if_false, ite_true, ite_false, reduceCtorEq, Bool.not_true, Bool.not_false, Bool.false_eq_true, DS.wrC, Cells.size, Cells.fillFrom, Cells.set, setN, fillParts, List.take_zero, List.take_succ_cons, List.drop_succ_cons, List.drop_zero, List.nil_append, List.cons_append, List.take_nil, List.drop_nil, List.append_nil, pp, pv, pw, pg, DS.upd_get_self, DS.upd_get_ne, DS.upd_next, DS.upd_wr, DS.upd_vis, DS.new_next, DS.new_wr, DS.new_vis, Option.map_some, Option.isSome_some, DS.set_upd, W_slV, W_app, W_bslice, Option.map_none, repeatZ, Nat.reduceMul, W_atL, atL_ap, W_ldA, ldA, unmask_mask, hidden_nil, List.length_append, setParams_nil, setParams_cons, Nat.add_zero, asIdx_cast, Nat.mul_one, Nat.zero_mul, decide_true, decide_false, List.toList_toArray, eq_self, Int.reduceEq, Int.reduceLT, Int.reduceLE, Option.isNone_none, Option.isNone_some, foot, mask_next, unmask_next, mask_get, hidden, noteAt, Bool.or_false, Bool.false_and, DS.read, Cells.take, g0, g1, g5, gq, hb, e1, decide_true, decide_false, c1, asIdx_cast, rows_get0 hx, dstr, bytesEq_ba, c2, w2]
      refine ⟨L.length - (i + 1), by omega, i + 1, rfl, by omega, rfl, rfl, ?_, ?_⟩
      · simp (maxSteps := 4000000) only [WC_seq, WC_region, WC_cond, WC_block, WC_skip, WC_ret, WC_exit, contS_normal, contS_ret, contS_exit, contB_normal, contB_ret, contB_exit, contB_other, contR_ap, contL_ret, contL_exit, contL_normal, WO_nil, WO_pp, WO_pn, WO_g, WO_hn, WO_hp, gateO_tt, gateO_tf, gateO_ft, gateO_ff, condC_true, condC_false, contO_ap, contN_ap, contH_ap, contHN_ap, atS_ap, atD_ap, atG_ap, atB_ap, atL_ap, W_some, W_mv, W_pick, W_bin, W_eq1, W_un, W_cvInt, W_nilck, W_build, W_mkf, W_fadr, W_fld, W_ixL, W_ext, W_blenL, W_ld, W_look, W_blenM, W_st, W_alloc, W_box, W_mkmap, W_mupd, W_bdel, W_call, dpure, dbin, dint, dread, dwrite, eqOne, Ends_ret, Ends_normal, ev_tmp, ev_const, ev_func, putT_some, putT_none, get_put_eq, get_put_ne, Nat.reduceEqDiff, not_false_eq_true, ofList_get, List.getElem?_cons_zero, List.getElem?_cons_succ, Option.getD_some, dresults, tupled, List.map_cons, List.map_nil, ldV_at, Cells.get, getN, Nat.zero_add, Nat.reduceAdd, st_wr, cells_int, cells_bool, cells_str, cells_ptr, cells_slice, cells_map, cells_func, cells_agg, List.length_cons, List.length_nil, allOne, oneCellD, Bool.and_self, Bool.and_true, Bool.true_and, Bool.and_eq_true, Nat.beq_eq, Nat.ble_eq, Nat.blt_eq, Nat.reduceLeDiff, Nat.le_refl, and_self, and_true, true_and, if_true, if_false, ite_true, ite_false, reduceCtorEq, Bool.not_true, Bool.not_false, Bool.false_eq_true, DS.wrC, Cells.size, Cells.fillFrom, Cells.set, setN, fillParts, List.take_zero, List.take_succ_cons, List.drop_succ_cons, List.drop_zero, List.nil_append, List.cons_append, List.take_nil, List.drop_nil, List.append_nil, pp, pv, pw, pg, DS.upd_get_self, DS.upd_get_ne, DS.upd_next, DS.upd_wr, DS.upd_vis, DS.new_next, DS.new_wr, DS.new_vis, Option.map_some, Option.isSome_some, DS.set_upd, W_slV, W_app, W_bslice, Option.map_none, repeatZ, Nat.reduceMul, W_atL, atL_ap, W_ldA, ldA, unmask_mask, hidden_nil, List.length_append, setParams_nil, setParams_cons, Nat.add_zero, asIdx_cast, Nat.mul_one, Nat.zero_mul, decide_true, decide_false, List.toList_toArray, eq_self, Int.reduceEq, Int.reduceLT, Int.reduceLE, Option.isNone_none, Option.isNone_some, foot, mask_next, unmask_next, mask_get, hidden, noteAt, Bool.or_false, Bool.false_and, DS.read, Cells.take, g0, g1, g5]
      · intro j y hj hy
        by_cases e : j = i
        · subst e; rw [hx] at hy; cases hy; exact c2
        · exact hno j y (by omega) hy
  · have e1 : ¬ (i : Int) < (L.length : Int) := by omega
    subst hv
    simp (maxSteps := 4000000) only [WC_seq, WC_region, WC_cond, WC_block, WC_skip, WC_ret, WC_exit, contS_normal, contS_ret, contS_exit, contB_normal, contB_ret, contB_exit, contB_other, contR_ap, contL_ret, contL_exit, contL_normal, WO_nil, WO_pp, WO_pn, WO_g, WO_hn, WO_hp, gateO_tt, gateO_tf, gateO_ft, gateO_ff, condC_true, condC_false, contO_ap, contN_ap, contH_ap, contHN_ap, atS_ap, atD_ap, atG_ap, atB_ap, atL_ap, W_some, W_mv, W_pick, W_bin, W_eq1, W_un, W_cvInt, W_nilck, W_build, W_mkf, W_fadr, W_fld, W_ixL, W_ext, W_blenL, W_ld, W_look, W_blenM, W_st, W_alloc, W_box, W_mkmap, W_mupd, W_bdel, W_call, dpure, dbin, dint, dread, dwrite, eqOne, Ends_ret, Ends_normal, ev_tmp, ev_const, ev_func, putT_some, putT_none, get_put_eq, get_put_ne, Nat.reduceEqDiff, not_false_eq_true, ofList_get, List.getElem?_cons_zero, List.getElem?_cons_succ, Option.getD_some, dresults, tupled, List.map_cons, List.map_nil, ldV_at, Cells.get, getN, Nat.zero_add, Nat.reduceAdd, st_wr, cells_int, cells_bool, cells_str, cells_ptr, cells_slice, cells_map, cells_func, cells_agg, List.length_cons, List.length_nil, allOne, oneCellD, Bool.and_self, Bool.and_true, Bool.true_and, Bool.and_eq_true, Nat.beq_eq, Nat.ble_eq, Nat.blt_eq, Nat.reduceLeDiff, Nat.le_refl, and_self, and_true, true_and, if_true, if_false, ite_true, ite_false, reduceCtorEq, Bool.not_true, Bool.not_false, Bool.false_eq_true, DS.wrC, Cells.size, Cells.fillFrom, Cells.set, setN, fillParts, List.take_zero, List.take_succ_cons, List.drop_succ_cons, List.drop_zero, List.nil_append, List.cons_append, List.take_nil, List.drop_nil, List.append_nil, pp, pv, pw, pg, DS.upd_get_self, DS.upd_get_ne, DS.upd_next, DS.upd_wr, DS.upd_vis, DS.new_next, DS.new_wr, DS.new_vis, Option.map_some, Option.isSome_some, DS.set_upd, W_slV, W_app, W_bslice, Option.map_none, repeatZ, Nat.reduceMul, W_atL, atL_ap, W_ldA, ldA, unmask_mask, hidden_nil, List.length_append, setParams_nil, setParams_cons, Nat.add_zero, asIdx_cast, Nat.mul_one, Nat.zero_mul, decide_true, decide_false, List.toList_toArray, eq_self, Int.reduceEq, Int.reduceLT, Int.reduceLE, Option.isNone_none, Option.isNone_some, foot, mask_next, unmask_next, mask_get, hidden, noteAt, Bool.or_false, Bool.false_and, DS.read, Cells.take, g0, g1, g5, gq, e1, decide_false]
    rw [fidx_none fun j y hy => hno j y (by have := (List.getElem?_eq_some_iff.1 hy).1; omega) hy]
    rfl
theorem without_ok (hl : L.length < 1000000) (c : RefAt s q v L room h ms) (hG : s.Good) {i : Nat} (hi : i < L.length) :
    W (dcall E (d + 1) (.func (.func 29) #[] #[]) [.pointer (some ⟨q, 0, none⟩), .int .i64 (i : Int)] s) fun r => SlX r.2 2 r.1 (rows (L.eraseIdx i)) ∧ Ext [] s r.2 ∧ ∀ k, k ∈ blk r.1 → s.next ≤ k := by
  have gq := c.gq
  have hql := DS.get_lt' gq
  have hq : Nat.ble s.next q = false := by cases h : Nat.ble s.next q with | false => rfl | true => have := Nat.ble_eq.mp h; omega
  have hnq : ∀ o, (s.new o).get q = some (.cells (.list [v, .int .i64 room, .int .i64 h, .int .i64 ms]) false) := fun o => (DS.new_get_lt hql).trans gq
  have hrl := rows_len L
  obtain ⟨w1, e1, v1, _, b1⟩ := slV_ok c.sl (rows_ok L) (lo := none) (hi := some (.int .i64 (i : Int))) (i := 0) (j := i) rfl rfl (Nat.zero_le _) (by omega)
  obtain ⟨w2, e2, v2, _, b2⟩ := slV_ok c.sl (rows_ok L) (lo := some (.int .i64 ((i + 1 : Nat) : Int))) (hi := none) (i := i + 1) (j := (rows L).length) rfl rfl (by omega) (Nat.le_refl _)
  have wd : dwrap .i64 ((i : Int) + 1) = ((i + 1 : Nat) : Int) := by rw [dwrap_in (by omega) (by omega)]; omega
  have o1 : RowsOk 2 (rows (L.take i)) := rows_ok _
  have o2 : RowsOk 2 (rows (L.drop (i + 1))) := rows_ok _
  have v1' : SlV s 2 w1 (rows (L.take i)) := by have := v1; rwa [List.drop_zero, show (rows L).take i = rows (L.take i) from List.map_take.symm] at this
  have v2' : SlV s 2 w2 (rows (L.drop (i + 1))) := by have := v2; rwa [List.take_length, show (rows L).drop (i + 1) = rows (L.drop (i + 1)) from List.map_drop.symm] at this
  have hvl := c.sl.lt
  refine W_cps fun Q hQ => ?_
  rw [W_enter0 hE.i29 hE.f29 rfl]
  simp (maxSteps := 4000000) only [WC_seq, WC_region, WC_cond, WC_block, WC_skip, WC_ret, WC_exit, contS_normal, contS_ret, contS_exit, contB_normal, contB_ret, contB_exit, contB_other, contR_ap, contL_ret, contL_exit, contL_normal, WO_nil, WO_pp, WO_pn, WO_g, WO_hn, WO_hp, gateO_tt, gateO_tf, gateO_ft, gateO_ff, condC_true, condC_false, contO_ap, contN_ap, contH_ap, contHN_ap, atS_ap, atD_ap, atG_ap, atB_ap, atL_ap, W_some, W_mv, W_pick, W_bin, W_eq1, W_un, W_cvInt, W_nilck, W_build, W_mkf, W_fadr, W_fld, W_ixL, W_ext, W_blenL, W_ld, W_look, W_blenM, W_st, W_alloc, W_box, W_mkmap, W_mupd, W_bdel, W_call, dpure, dbin, dint, dread, dwrite, eqOne, Ends_ret, Ends_normal, ev_tmp, ev_const, ev_func, putT_some, putT_none, get_put_eq, get_put_ne, Nat.reduceEqDiff, not_false_eq_true, ofList_get, List.getElem?_cons_zero, List.getElem?_cons_succ, Option.getD_some, dresults, tupled, List.map_cons, List.map_nil, ldV_at, Cells.get, getN, Nat.zero_add, Nat.reduceAdd, st_wr, cells_int, cells_bool, cells_str, cells_ptr, cells_slice, cells_map, cells_func, cells_agg, List.length_cons, List.length_nil, allOne, oneCellD, Bool.and_self, Bool.and_true, Bool.true_and, Bool.and_eq_true, Nat.beq_eq, Nat.ble_eq, Nat.blt_eq, Nat.reduceLeDiff, Nat.le_refl, and_self, and_true, true_and, if_true, if_false, ite_true, ite_false, reduceCtorEq, Bool.not_true, Bool.not_false, Bool.false_eq_true, DS.wrC, Cells.size, Cells.fillFrom, Cells.set, setN, fillParts, List.take_zero, List.take_succ_cons, List.drop_succ_cons, List.drop_zero, List.nil_append, List.cons_append, List.take_nil, List.drop_nil, List.append_nil, pp, pv, pw, pg, DS.upd_get_self, DS.upd_get_ne, DS.upd_next, DS.upd_wr, DS.upd_vis, DS.new_next, DS.new_wr, DS.new_vis, Option.map_some, Option.isSome_some, DS.set_upd, W_slV, W_app, W_bslice, Option.map_none, repeatZ, Nat.reduceMul, W_atL, atL_ap, W_ldA, ldA, unmask_mask, hidden_nil, List.length_append, setParams_nil, setParams_cons, Nat.add_zero, asIdx_cast, Nat.mul_one, Nat.zero_mul, decide_true, decide_false, List.toList_toArray, eq_self, Int.reduceEq, Int.reduceLT, Int.reduceLE, Option.isNone_none, Option.isNone_some, foot, mask_next, unmask_next, mask_get, hidden, noteAt, Bool.or_false, Bool.false_and, DS.read, Cells.take, d29, hnq, gq, mask_get, hidden, noteAt, Bool.or_false, Bool.false_and, hq, e1, e2, wd]
  have hGn : ∀ o, (s.new o).Good := fun o => DS.new_good hG
  have hh : ∀ (nt : List Note) (k a : Nat) (f : List Nat), (Nat.ble a k && Nat.blt k a) = false := fun _ k a _ => ble_blt a k
  refine W.mono (appV_ok (lx := []) (ly := rows (L.take i)) (.inr ⟨s.next, none, rfl, .inl rfl, ?_, ?_⟩) (v1'.of ?_) RowsOk.nil o1 (mask_good (hGn _) ?_) (by simp [rows]; omega) (by simp [rows]; omega)) ?_
  · rw [mask_get (by (simp only [hidden, shielded, noteAt, memN, Bool.or_false, Bool.or_eq_false_iff, Bool.and_eq_false_iff, bleF, bltF, beqF, true_and, and_true, true_or, or_true] <;> omega))]; exact DS.new_get_self hG
  · exact mask_wr (hG _ (Nat.le_refl _)).2 (by (simp only [hidden, shielded, noteAt, memN, Bool.or_false, Bool.or_eq_false_iff, Bool.and_eq_false_iff, bleF, bltF, beqF, true_and, and_true, true_or, or_true] <;> omega)) (by (simp only [hidden, shielded, noteAt, memN, Bool.or_false, Bool.or_eq_false_iff, Bool.and_eq_false_iff, bleF, bltF, beqF, true_and, and_true, true_or, or_true] <;> omega))
  · intro k hk
    rw [mask_get (by (simp only [hidden, shielded, noteAt, memN, Bool.or_false, Bool.or_eq_false_iff, Bool.and_eq_false_iff, bleF, bltF, beqF, true_and, and_true, true_or, or_true] <;> omega)), DS.new_get_lt (hvl k (b1 k hk))]
  · intro k hk
    exact (by have : s.next + 1 ≤ k := hk; exact ⟨by (simp only [hidden, shielded, noteAt, memN, Bool.or_false, Bool.or_eq_false_iff, Bool.and_eq_false_iff, bleF, bltF, beqF, true_and, and_true, true_or, or_true] <;> omega), by (simp only [hidden, shielded, noteAt, memN, Bool.or_false, Bool.or_eq_false_iff, Bool.and_eq_false_iff, bleF, bltF, beqF, true_and, and_true, true_or, or_true] <;> omega)⟩)
  rintro ⟨w3, s3⟩ ⟨x3, e3, b3⟩
  simp only [blk] at x3 e3 b3
  have e3' := Ext.unmask (fun k => by (simp only [hidden, shielded, noteAt, memN, Bool.or_false, Bool.or_eq_false_iff, Bool.and_eq_false_iff, bleF, bltF, beqF, true_and, and_true, true_or, or_true] <;> omega)) e3
  have x3' := x3.of (s' := unmask (s.new (.cells (.list []) false)) s3) fun k hk => ⟨unmask_same (fun k => by (simp only [hidden, shielded, noteAt, memN, Bool.or_false, Bool.or_eq_false_iff, Bool.and_eq_false_iff, bleF, bltF, beqF, true_and, and_true, true_or, or_true] <;> omega)) e3, fun hw => by
    rw [unmask_wr]
    have : s3.wr k = true := hw
    rw [e3.wr] at this
    simp [mask] at this
    exact this.1.1⟩
  simp (maxSteps := 4000000) only [WC_seq, WC_region, WC_cond, WC_block, WC_skip, WC_ret, WC_exit, contS_normal, contS_ret, contS_exit, contB_normal, contB_ret, contB_exit, contB_other, contR_ap, contL_ret, contL_exit, contL_normal, WO_nil, WO_pp, WO_pn, WO_g, WO_hn, WO_hp, gateO_tt, gateO_tf, gateO_ft, gateO_ff, condC_true, condC_false, contO_ap, contN_ap, contH_ap, contHN_ap, atS_ap, atD_ap, atG_ap, atB_ap, atL_ap, W_some, W_mv, W_pick, W_bin, W_eq1, W_un, W_cvInt, W_nilck, W_build, W_mkf, W_fadr, W_fld, W_ixL, W_ext, W_blenL, W_ld, W_look, W_blenM, W_st, W_alloc, W_box, W_mkmap, W_mupd, W_bdel, W_call, dpure, dbin, dint, dread, dwrite, eqOne, Ends_ret, Ends_normal, ev_tmp, ev_const, ev_func, putT_some, putT_none, get_put_eq, get_put_ne, Nat.reduceEqDiff, not_false_eq_true, ofList_get, List.getElem?_cons_zero, List.getElem?_cons_succ, Option.getD_some, dresults, tupled, List.map_cons, List.map_nil, ldV_at, Cells.get, getN, Nat.zero_add, Nat.reduceAdd, st_wr, cells_int, cells_bool, cells_str, cells_ptr, cells_slice, cells_map, cells_func, cells_agg, List.length_cons, List.length_nil, allOne, oneCellD, Bool.and_self, Bool.and_true, Bool.true_and, Bool.and_eq_true, Nat.beq_eq, Nat.ble_eq, Nat.blt_eq, Nat.reduceLeDiff, Nat.le_refl, and_self, and_true, true_and, if_true, if_false, ite_true, ite_false, reduceCtorEq, Bool.not_true, Bool.not_false, Bool.false_eq_true, DS.wrC, Cells.size, Cells.fillFrom, Cells.set, setN, fillParts, List.take_zero, List.take_succ_cons, List.drop_succ_cons, List.drop_zero, List.nil_append, List.cons_append, List.take_nil, List.drop_nil, List.append_nil, pp, pv, pw, pg, DS.upd_get_self, DS.upd_get_ne, DS.upd_next, DS.upd_wr, DS.upd_vis, DS.new_next, DS.new_wr, DS.new_vis, Option.map_some, Option.isSome_some, DS.set_upd, W_slV, W_app, W_bslice, Option.map_none, repeatZ, Nat.reduceMul, W_atL, atL_ap, W_ldA, ldA, unmask_mask, hidden_nil, List.length_append, setParams_nil, setParams_cons, Nat.add_zero, asIdx_cast, Nat.mul_one, Nat.zero_mul, decide_true, decide_false, List.toList_toArray, eq_self, Int.reduceEq, Int.reduceLT, Int.reduceLE, Option.isNone_none, Option.isNone_some, foot, mask_next, unmask_next, mask_get, hidden, noteAt, Bool.or_false, Bool.false_and, DS.read, Cells.take]
  have hX : Ext [] s (unmask (s.new (.cells (.list []) false)) s3) := Ext.new.trans e3' (by simp)
  refine W.mono (appV_ok x3' (v2'.of ?_) o1 o2 (hX.good hG) (by simp [rows]; omega) (by simp [rows]; omega)) ?_
  · intro k hk
    exact hX.get k (hvl k (b2 k hk)) (by simp)
  rintro ⟨w4, s4⟩ ⟨x4, e4, b4⟩
  simp only at x4 e4 b4
  simp (maxSteps := 4000000) only [WC_seq, WC_region, WC_cond, WC_block, WC_skip, WC_ret, WC_exit, contS_normal, contS_ret, contS_exit, contB_normal, contB_ret, contB_exit, contB_other, contR_ap, contL_ret, contL_exit, contL_normal, WO_nil, WO_pp, WO_pn, WO_g, WO_hn, WO_hp, gateO_tt, gateO_tf, gateO_ft, gateO_ff, condC_true, condC_false, contO_ap, contN_ap, contH_ap, contHN_ap, atS_ap, atD_ap, atG_ap, atB_ap, atL_ap, W_some, W_mv, W_pick, W_bin, W_eq1, W_un, W_cvInt, W_nilck, W_build, W_mkf, W_fadr, W_fld, W_ixL, W_ext, W_blenL, W_ld, W_look, W_blenM, W_st, W_alloc, W_box, W_mkmap, W_mupd, W_bdel, W_call, dpure, dbin, dint, dread, dwrite, eqOne, Ends_ret, Ends_normal, ev_tmp, ev_const, ev_func, putT_some, putT_none, get_put_eq, get_put_ne, Nat.reduceEqDiff, not_false_eq_true, ofList_get, List.getElem?_cons_zero, List.getElem?_cons_succ, Option.getD_some, dresults, tupled, List.map_cons, List.map_nil, ldV_at, Cells.get, getN, Nat.zero_add, Nat.reduceAdd, st_wr, cells_int, cells_bool, cells_str, cells_ptr, cells_slice, cells_map, cells_func, cells_agg, List.length_cons, List.length_nil, allOne, oneCellD, Bool.and_self, Bool.and_true, Bool.true_and, Bool.and_eq_true, Nat.beq_eq, Nat.ble_eq, Nat.blt_eq, Nat.reduceLeDiff, Nat.le_refl, and_self, and_true, true_and, if_true, if_false, ite_true, ite_false, reduceCtorEq, Bool.not_true, Bool.not_false, Bool.false_eq_true, DS.wrC, Cells.size, Cells.fillFrom, Cells.set, setN, fillParts, List.take_zero, List.take_succ_cons, List.drop_succ_cons, List.drop_zero, List.nil_append, List.cons_append, List.take_nil, List.drop_nil, List.append_nil, pp, pv, pw, pg, DS.upd_get_self, DS.upd_get_ne, DS.upd_next, DS.upd_wr, DS.upd_vis, DS.new_next, DS.new_wr, DS.new_vis, Option.map_some, Option.isSome_some, DS.set_upd, W_slV, W_app, W_bslice, Option.map_none, repeatZ, Nat.reduceMul, W_atL, atL_ap, W_ldA, ldA, unmask_mask, hidden_nil, List.length_append, setParams_nil, setParams_cons, Nat.add_zero, asIdx_cast, Nat.mul_one, Nat.zero_mul, decide_true, decide_false, List.toList_toArray, eq_self, Int.reduceEq, Int.reduceLT, Int.reduceLE, Option.isNone_none, Option.isNone_some, foot, mask_next, unmask_next, mask_get, hidden, noteAt, Bool.or_false, Bool.false_and, DS.read, Cells.take]
  have hb3 : ∀ k, k ∈ blk w3 → s.next ≤ k := fun k hk => by
    rcases b3 k hk with h | h
    · simp at h; omega
    · have : s.next + 1 ≤ k := h; omega
  refine hQ _ ⟨?_, hX.trans e4 fun k hk => .inr (hb3 k hk), fun k hk => ?_⟩
  · have : rows (L.eraseIdx i) = rows (L.take i) ++ rows (L.drop (i + 1)) := by rw [List.eraseIdx_eq_take_drop_succ]; exact List.map_append
    rw [this]; exact x4
  · rcases b4 k hk with h | h
    · exact hb3 k h
    · exact Nat.le_trans hX.le h
theorem rpeek_some (hlf : L.length < E.lf) (hl : L.length < 1000000) (c : RefAt s q v L room h ms) {k : ByteArray} {i : Nat} {x : Item} (hi : fidx k L = some i) (hx : L[i]? = some x) :
    dcall E (d + 2) (.func (.func 16) #[] #[]) [.pointer (some ⟨q, 0, none⟩), .string k] s = some (.tuple ⟨[.int .i64 x.2, .bool true]⟩, s) := by
  have gq := c.gq
  have hil := (List.getElem?_eq_some_iff.1 hx).1
  obtain ⟨b, sp, rfl, _, hb, _⟩ := c.sl.at (fun e => by have := rows_len L; rw [e] at this; simp at this; omega)
  rw [rows_len] at c gq
  have e1 : ¬ (i : Int) < 0 := by omega
  rw [← W_iff, W_enter0 hE.i16 hE.f16 rfl]
  have hfind := find_ok hE hlf hl c k (d := d)
  rw [hi] at hfind
  simp (maxSteps := 4000000) only [WC_seq, WC_region, WC_cond, WC_block, WC_skip, WC_ret, WC_exit, contS_normal, contS_ret, contS_exit, contB_normal, contB_ret, contB_exit, contB_other, contR_ap, contL_ret, contL_exit, contL_normal, WO_nil, WO_pp, WO_pn, WO_g, WO_hn, WO_hp, gateO_tt, gateO_tf, gateO_ft, gateO_ff, condC_true, condC_false, contO_ap, contN_ap, contH_ap, contHN_ap, atS_ap, atD_ap, atG_ap, atB_ap, atL_ap, W_some, W_mv, W_pick, W_bin, W_eq1, W_un, W_cvInt, W_nilck, W_build, W_mkf, W_fadr, W_fld, W_ixL, W_ext, W_blenL, W_ld, W_look, W_blenM, W_st, W_alloc, W_box, W_mkmap, W_mupd, W_bdel, W_call, dpure, dbin, dint, dread, dwrite, eqOne, Ends_ret, Ends_normal, ev_tmp, ev_const, ev_func, putT_some, putT_none, get_put_eq, get_put_ne, Nat.reduceEqDiff, not_false_eq_true, ofList_get, List.getElem?_cons_zero, List.getElem?_cons_succ, Option.getD_some, dresults, tupled, List.map_cons, List.map_nil, ldV_at, Cells.get, getN, Nat.zero_add, Nat.reduceAdd, st_wr, cells_int, cells_bool, cells_str, cells_ptr, cells_slice, cells_map, cells_func, cells_agg, List.length_cons, List.length_nil, allOne, oneCellD, Bool.and_self, Bool.and_true, Bool.true_and, Bool.and_eq_true, Nat.beq_eq, Nat.ble_eq, Nat.blt_eq, Nat.reduceLeDiff, Nat.le_refl, and_self, and_true, true_and, if_true, if_false, ite_true, ite_false, reduceCtorEq, Bool.not_true, Bool.not_false, Bool.false_eq_true, DS.wrC, Cells.size, Cells.fillFrom, Cells.set, setN, fillParts, List.take_zero, List.take_succ_cons, List.drop_succ_cons, List.drop_zero, List.nil_append, List.cons_append, List.take_nil, List.drop_nil, List.append_nil, pp, pv, pw, pg, DS.upd_get_self, DS.upd_get_ne, DS.upd_next, DS.upd_wr, DS.upd_vis, DS.new_next, DS.new_wr, DS.new_vis, Option.map_some, Option.isSome_some, DS.set_upd, W_slV, W_app, W_bslice, Option.map_none, repeatZ, Nat.reduceMul, W_atL, atL_ap, W_ldA, ldA, unmask_mask, hidden_nil, List.length_append, setParams_nil, setParams_cons, Nat.add_zero, asIdx_cast, Nat.mul_one, Nat.zero_mul, decide_true, decide_false, List.toList_toArray, eq_self, Int.reduceEq, Int.reduceLT, Int.reduceLE, Option.isNone_none, Option.isNone_some, foot, mask_next, unmask_next, mask_get, hidden, noteAt, Bool.or_false, Bool.false_and, DS.read, Cells.take, d16, hfind, posI, e1, gq, hil, hb, rows_get1 hx, rows_len]
theorem rpeek_none (hlf : L.length < E.lf) (hl : L.length < 1000000) (c : RefAt s q v L room h ms) {k : ByteArray} (hi : fidx k L = none) :
    dcall E (d + 2) (.func (.func 16) #[] #[]) [.pointer (some ⟨q, 0, none⟩), .string k] s = some (.tuple ⟨[.int .i64 0, .bool false]⟩, s) := by
  have hfind := find_ok hE hlf hl c k (d := d)
  rw [hi] at hfind
  rw [← W_iff, W_enter0 hE.i16 hE.f16 rfl]
  simp (maxSteps := 4000000) only [WC_seq, WC_region, WC_cond, WC_block, WC_skip, WC_ret, WC_exit, contS_normal, contS_ret, contS_exit, contB_normal, contB_ret, contB_exit, contB_other, contR_ap, contL_ret, contL_exit, contL_normal, WO_nil, WO_pp, WO_pn, WO_g, WO_hn, WO_hp, gateO_tt, gateO_tf, gateO_ft, gateO_ff, condC_true, condC_false, contO_ap, contN_ap, contH_ap, contHN_ap, atS_ap, atD_ap, atG_ap, atB_ap, atL_ap, W_some, W_mv, W_pick, W_bin, W_eq1, W_un, W_cvInt, W_nilck, W_build, W_mkf, W_fadr, W_fld, W_ixL, W_ext, W_blenL, W_ld, W_look, W_blenM, W_st, W_alloc, W_box, W_mkmap, W_mupd, W_bdel, W_call, dpure, dbin, dint, dread, dwrite, eqOne, Ends_ret, Ends_normal, ev_tmp, ev_const, ev_func, putT_some, putT_none, get_put_eq, get_put_ne, Nat.reduceEqDiff, not_false_eq_true, ofList_get, List.getElem?_cons_zero, List.getElem?_cons_succ, Option.getD_some, dresults, tupled, List.map_cons, List.map_nil, ldV_at, Cells.get, getN, Nat.zero_add, Nat.reduceAdd, st_wr, cells_int, cells_bool, cells_str, cells_ptr, cells_slice, cells_map, cells_func, cells_agg, List.length_cons, List.length_nil, allOne, oneCellD, Bool.and_self, Bool.and_true, Bool.true_and, Bool.and_eq_true, Nat.beq_eq, Nat.ble_eq, Nat.blt_eq, Nat.reduceLeDiff, Nat.le_refl, and_self, and_true, true_and, if_true, if_false, ite_true, ite_false, reduceCtorEq, Bool.not_true, Bool.not_false, Bool.false_eq_true, DS.wrC, Cells.size, Cells.fillFrom, Cells.set, setN, fillParts, List.take_zero, List.take_succ_cons, List.drop_succ_cons, List.drop_zero, List.nil_append, List.cons_append, List.take_nil, List.drop_nil, List.append_nil, pp, pv, pw, pg, DS.upd_get_self, DS.upd_get_ne, DS.upd_next, DS.upd_wr, DS.upd_vis, DS.new_next, DS.new_wr, DS.new_vis, Option.map_some, Option.isSome_some, DS.set_upd, W_slV, W_app, W_bslice, Option.map_none, repeatZ, Nat.reduceMul, W_atL, atL_ap, W_ldA, ldA, unmask_mask, hidden_nil, List.length_append, setParams_nil, setParams_cons, Nat.add_zero, asIdx_cast, Nat.mul_one, Nat.zero_mul, decide_true, decide_false, List.toList_toArray, eq_self, Int.reduceEq, Int.reduceLT, Int.reduceLE, Option.isNone_none, Option.isNone_some, foot, mask_next, unmask_next, mask_get, hidden, noteAt, Bool.or_false, Bool.false_and, DS.read, Cells.take, d16, hfind, posI]
theorem rdrop_ok (hlf : L.length < E.lf) (hl : L.length < 1000000) (c : RefAt s q v L room h ms) (hG : s.Good) (k : ByteArray) :
    W (dcall E (d + 2) (.func (.func 14) #[] #[]) [.pointer (some ⟨q, 0, none⟩), .string k] s) fun r => ∃ w, Ext [q] s r.2 ∧ (∀ j, j ∈ blk w → j ∈ blk v ∨ s.next ≤ j) ∧
      ((fidx k L = none ∧ r.1 = .bool false ∧ RefAt r.2 q w L room h ms) ∨ ∃ i, fidx k L = some i ∧ r.1 = .bool true ∧ RefAt r.2 q w (L.eraseIdx i) room h ms) := by
  have hfind := find_ok hE hlf hl c k (d := d)
  refine W_cps fun Q hQ => ?_
  rw [W_enter0 hE.i14 hE.f14 rfl]
  cases hi : fidx k L with
  | none =>
    rw [hi] at hfind
    simp (maxSteps := 4000000) only [WC_seq, WC_region, WC_cond, WC_block, WC_skip, WC_ret, WC_exit, contS_normal, contS_ret, contS_exit, contB_normal, contB_ret, contB_exit, contB_other, contR_ap, contL_ret, contL_exit, contL_normal, WO_nil, WO_pp, WO_pn, WO_g, WO_hn, WO_hp, gateO_tt, gateO_tf, gateO_ft, gateO_ff, condC_true, condC_false, contO_ap, contN_ap, contH_ap, contHN_ap, atS_ap, atD_ap, atG_ap, atB_ap, atL_ap, W_some, W_mv, W_pick, W_bin, W_eq1, W_un, W_cvInt, W_nilck, W_build, W_mkf, W_fadr, W_fld, W_ixL, W_ext, W_blenL, W_ld, W_look, W_blenM, W_st, W_alloc, W_box, W_mkmap, W_mupd, W_bdel, W_call, dpure, dbin, dint, dread, dwrite, eqOne, Ends_ret, Ends_normal, ev_tmp, ev_const, ev_func, putT_some, putT_none, get_put_eq, get_put_ne, Nat.reduceEqDiff, not_false_eq_true, ofList_get, List.getElem?_cons_zero, List.getElem?_cons_succ, Option.getD_some, dresults, tupled, List.map_cons, List.map_nil, ldV_at, Cells.get, getN, Nat.zero_add, Nat.reduceAdd, st_wr, cells_int, cells_bool, cells_str, cells_ptr, cells_slice, cells_map, cells_func, cells_agg, List.length_cons, List.length_nil, allOne, oneCellD, Bool.and_self, Bool.and_true, Bool.true_and, Bool.and_eq_true, Nat.beq_eq, Nat.ble_eq, Nat.blt_eq, Nat.reduceLeDiff, Nat.le_refl, and_self, and_true, true_and, if_true, if_false, ite_true, ite_false, reduceCtorEq, Bool.not_true, Bool.not_false, Bool.false_eq_true, DS.wrC, Cells.size, Cells.fillFrom, Cells.set, setN, fillParts, List.take_zero, List.take_succ_cons, List.drop_succ_cons, List.drop_zero, List.nil_append, List.cons_append, List.take_nil, List.drop_nil, List.append_nil, pp, pv, pw, pg, DS.upd_get_self, DS.upd_get_ne, DS.upd_next, DS.upd_wr, DS.upd_vis, DS.new_next, DS.new_wr, DS.new_vis, Option.map_some, Option.isSome_some, DS.set_upd, W_slV, W_app, W_bslice, Option.map_none, repeatZ, Nat.reduceMul, W_atL, atL_ap, W_ldA, ldA, unmask_mask, hidden_nil, List.length_append, setParams_nil, setParams_cons, Nat.add_zero, asIdx_cast, Nat.mul_one, Nat.zero_mul, decide_true, decide_false, List.toList_toArray, eq_self, Int.reduceEq, Int.reduceLT, Int.reduceLE, Option.isNone_none, Option.isNone_some, foot, mask_next, unmask_next, mask_get, hidden, noteAt, Bool.or_false, Bool.false_and, DS.read, Cells.take, d14, hfind, posI]
    exact hQ _ ⟨v, .refl, fun j hj => .inl hj, .inl ⟨hi, rfl, c⟩⟩
  | some i =>
    rw [hi] at hfind
    obtain ⟨x, hx, _⟩ := fidx_lt hi
    have hil := (List.getElem?_eq_some_iff.1 hx).1
    have e1 : (0 : Int) ≤ (i : Int) := by omega
    simp (maxSteps := 4000000) only [WC_seq, WC_region, WC_cond, WC_block, WC_skip, WC_ret, WC_exit, contS_normal, contS_ret, contS_exit, contB_normal, contB_ret, contB_exit, contB_other, contR_ap, contL_ret, contL_exit, contL_normal, WO_nil, WO_pp, WO_pn, WO_g, WO_hn, WO_hp, gateO_tt, gateO_tf, gateO_ft, gateO_ff, condC_true, condC_false, contO_ap, contN_ap, contH_ap, contHN_ap, atS_ap, atD_ap, atG_ap, atB_ap, atL_ap, W_some, W_mv, W_pick, W_bin, W_eq1, W_un, W_cvInt, W_nilck, W_build, W_mkf, W_fadr, W_fld, W_ixL, W_ext, W_blenL, W_ld, W_look, W_blenM, W_st, W_alloc, W_box, W_mkmap, W_mupd, W_bdel, W_call, dpure, dbin, dint, dread, dwrite, eqOne, Ends_ret, Ends_normal, ev_tmp, ev_const, ev_func, putT_some, putT_none, get_put_eq, get_put_ne, Nat.reduceEqDiff, not_false_eq_true, ofList_get, List.getElem?_cons_zero, List.getElem?_cons_succ, Option.getD_some, dresults, tupled, List.map_cons, List.map_nil, ldV_at, Cells.get, getN, Nat.zero_add, Nat.reduceAdd, st_wr, cells_int, cells_bool, cells_str, cells_ptr, cells_slice, cells_map, cells_func, cells_agg, List.length_cons, List.length_nil, allOne, oneCellD, Bool.and_self, Bool.and_true, Bool.true_and, Bool.and_eq_true, Nat.beq_eq, Nat.ble_eq, Nat.blt_eq, Nat.reduceLeDiff, Nat.le_refl, and_self, and_true, true_and, if_true, if_false, ite_true, ite_false, reduceCtorEq, Bool.not_true, Bool.not_false, Bool.false_eq_true, DS.wrC, Cells.size, Cells.fillFrom, Cells.set, setN, fillParts, List.take_zero, List.take_succ_cons, List.drop_succ_cons, List.drop_zero, List.nil_append, List.cons_append, List.take_nil, List.drop_nil, List.append_nil, pp, pv, pw, pg, DS.upd_get_self, DS.upd_get_ne, DS.upd_next, DS.upd_wr, DS.upd_vis, DS.new_next, DS.new_wr, DS.new_vis, Option.map_some, Option.isSome_some, DS.set_upd, W_slV, W_app, W_bslice, Option.map_none, repeatZ, Nat.reduceMul, W_atL, atL_ap, W_ldA, ldA, unmask_mask, hidden_nil, List.length_append, setParams_nil, setParams_cons, Nat.add_zero, asIdx_cast, Nat.mul_one, Nat.zero_mul, decide_true, decide_false, List.toList_toArray, eq_self, Int.reduceEq, Int.reduceLT, Int.reduceLE, Option.isNone_none, Option.isNone_some, foot, mask_next, unmask_next, mask_get, hidden, noteAt, Bool.or_false, Bool.false_and, DS.read, Cells.take, d14, hfind, posI, e1]
    refine W.mono (without_ok hE hl c hG hil) ?_
    rintro ⟨w, s1⟩ ⟨x1, X1, b1⟩
    simp only at x1 X1 b1
    have c1 := c.keep X1 (by simp) (by simp)
    have gq := c1.gq
    have wq := c1.wq
    have hqw : q ∉ blk w := fun h => by have := b1 q h; have := DS.get_lt' c.gq; omega
    obtain ⟨a, rfl⟩ := x1.shape
    simp (maxSteps := 4000000) only [WC_seq, WC_region, WC_cond, WC_block, WC_skip, WC_ret, WC_exit, contS_normal, contS_ret, contS_exit, contB_normal, contB_ret, contB_exit, contB_other, contR_ap, contL_ret, contL_exit, contL_normal, WO_nil, WO_pp, WO_pn, WO_g, WO_hn, WO_hp, gateO_tt, gateO_tf, gateO_ft, gateO_ff, condC_true, condC_false, contO_ap, contN_ap, contH_ap, contHN_ap, atS_ap, atD_ap, atG_ap, atB_ap, atL_ap, W_some, W_mv, W_pick, W_bin, W_eq1, W_un, W_cvInt, W_nilck, W_build, W_mkf, W_fadr, W_fld, W_ixL, W_ext, W_blenL, W_ld, W_look, W_blenM, W_st, W_alloc, W_box, W_mkmap, W_mupd, W_bdel, W_call, dpure, dbin, dint, dread, dwrite, eqOne, Ends_ret, Ends_normal, ev_tmp, ev_const, ev_func, putT_some, putT_none, get_put_eq, get_put_ne, Nat.reduceEqDiff, not_false_eq_true, ofList_get, List.getElem?_cons_zero, List.getElem?_cons_succ, Option.getD_some, dresults, tupled, List.map_cons, List.map_nil, ldV_at, Cells.get, getN, Nat.zero_add, Nat.reduceAdd, st_wr, cells_int, cells_bool, cells_str, cells_ptr, cells_slice, cells_map, cells_func, cells_agg, List.length_cons, List.length_nil, allOne, oneCellD, Bool.and_self, Bool.and_true, Bool.true_and, Bool.and_eq_true, Nat.beq_eq, Nat.ble_eq, Nat.blt_eq, Nat.reduceLeDiff, Nat.le_refl, and_self, and_true, true_and, if_true, if_false, ite_true, ite_false, reduceCtorEq, Bool.not_true, Bool.not_false, Bool.false_eq_true, DS.wrC, Cells.size, Cells.fillFrom, Cells.set, setN, fillParts, List.take_zero, List.take_succ_cons, List.drop_succ_cons, List.drop_zero, List.nil_append, List.cons_append, List.take_nil, List.drop_nil, List.append_nil, pp, pv, pw, pg, DS.upd_get_self, DS.upd_get_ne, DS.upd_next, DS.upd_wr, DS.upd_vis, DS.new_next, DS.new_wr, DS.new_vis, Option.map_some, Option.isSome_some, DS.set_upd, W_slV, W_app, W_bslice, Option.map_none, repeatZ, Nat.reduceMul, W_atL, atL_ap, W_ldA, ldA, unmask_mask, hidden_nil, List.length_append, setParams_nil, setParams_cons, Nat.add_zero, asIdx_cast, Nat.mul_one, Nat.zero_mul, decide_true, decide_false, List.toList_toArray, eq_self, Int.reduceEq, Int.reduceLT, Int.reduceLE, Option.isNone_none, Option.isNone_some, foot, mask_next, unmask_next, mask_get, hidden, noteAt, Bool.or_false, Bool.false_and, DS.read, Cells.take, gq, wq]
    refine hQ _ ⟨_, (X1.weaken (by simp)).trans' (Ext.upd (F := [q]) (k := q) (.inl (by simp))), fun j hj => .inr (b1 j hj), .inr ⟨i, hi, rfl, ?_⟩⟩
    exact ⟨by simp only [DS.upd_get_self, gq, Option.map_some], by simp only [DS.upd_wr, wq], x1.keep (Ext.upd (F := [q]) (k := q) (.inl (by simp))) (fun j hj => by simp; intro e; subst e; exact hqw hj), hqw⟩
theorem rget_none (hlf : L.length < E.lf) (hl : L.length < 1000000) (c : RefAt s q v L room h ms) {k : ByteArray} (hi : fidx k L = none) (hm : 0 ≤ ms ∧ ms < 9223372036854775807) :
    W (dcall E (d + 2) (.func (.func 10) #[] #[]) [.pointer (some ⟨q, 0, none⟩), .string k] s) fun r => r.1 = .tuple ⟨[.int .i64 0, .bool false]⟩ ∧ Ext [q] s r.2 ∧ RefAt r.2 q v L room h (ms + 1) := by
  have hfind := find_ok hE hlf hl c k (d := d)
  rw [hi] at hfind
  have gq := c.gq
  have wq := c.wq
  have wd : dwrap .i64 (ms + 1) = ms + 1 := dwrap_in (by omega) (by omega)
  refine W_cps fun Q hQ => ?_
  rw [W_enter0 hE.i10 hE.f10 rfl]
  simp (maxSteps := 4000000) only [WC_seq, WC_region, WC_cond, WC_block, WC_skip, WC_ret, WC_exit, contS_normal, contS_ret, contS_exit, contB_normal, contB_ret, contB_exit, contB_other, contR_ap, contL_ret, contL_exit, contL_normal, WO_nil, WO_pp, WO_pn, WO_g, WO_hn, WO_hp, gateO_tt, gateO_tf, gateO_ft, gateO_ff, condC_true, condC_false, contO_ap, contN_ap, contH_ap, contHN_ap, atS_ap, atD_ap, atG_ap, atB_ap, atL_ap, W_some, W_mv, W_pick, W_bin, W_eq1, W_un, W_cvInt, W_nilck, W_build, W_mkf, W_fadr, W_fld, W_ixL, W_ext, W_blenL, W_ld, W_look, W_blenM, W_st, W_alloc, W_box, W_mkmap, W_mupd, W_bdel, W_call, dpure, dbin, dint, dread, dwrite, eqOne, Ends_ret, Ends_normal, ev_tmp, ev_const, ev_func, putT_some, putT_none, get_put_eq, get_put_ne, Nat.reduceEqDiff, not_false_eq_true, ofList_get, List.getElem?_cons_zero, List.getElem?_cons_succ, Option.getD_some, dresults, tupled, List.map_cons, List.map_nil, ldV_at, Cells.get, getN, Nat.zero_add, Nat.reduceAdd, st_wr, cells_int, cells_bool, cells_str, cells_ptr, cells_slice, cells_map, cells_func, cells_agg, List.length_cons, List.length_nil, allOne, oneCellD, Bool.and_self, Bool.and_true, Bool.true_and, Bool.and_eq_true, Nat.beq_eq, Nat.ble_eq, Nat.blt_eq, Nat.reduceLeDiff, Nat.le_refl, and_self, and_true, true_and, if_true, if_false, ite_true, ite_false, reduceCtorEq, Bool.not_true, Bool.not_false, Bool.false_eq_true, DS.wrC, Cells.size, Cells.fillFrom, Cells.set, setN, fillParts, List.take_zero, List.take_succ_cons, List.drop_succ_cons, List.drop_zero, List.nil_append, List.cons_append, List.take_nil, List.drop_nil, List.append_nil, pp, pv, pw, pg, DS.upd_get_self, DS.upd_get_ne, DS.upd_next, DS.upd_wr, DS.upd_vis, DS.new_next, DS.new_wr, DS.new_vis, Option.map_some, Option.isSome_some, DS.set_upd, W_slV, W_app, W_bslice, Option.map_none, repeatZ, Nat.reduceMul, W_atL, atL_ap, W_ldA, ldA, unmask_mask, hidden_nil, List.length_append, setParams_nil, setParams_cons, Nat.add_zero, asIdx_cast, Nat.mul_one, Nat.zero_mul, decide_true, decide_false, List.toList_toArray, eq_self, Int.reduceEq, Int.reduceLT, Int.reduceLE, Option.isNone_none, Option.isNone_some, foot, mask_next, unmask_next, mask_get, hidden, noteAt, Bool.or_false, Bool.false_and, DS.read, Cells.take, d10, hfind, posI, gq, wq, wd]
  have X1 : ∀ o, Ext [q] s (s.upd q o) := fun o => Ext.upd (.inl (by simp))
  refine hQ _ ⟨rfl, X1 _, ?_⟩
  exact ⟨by simp only [DS.upd_get_self, gq, Option.map_some], by simp only [DS.upd_wr, wq], c.sl.keep (X1 _) (fun j hj => by simp; intro e; subst e; exact c.ne hj), c.ne⟩
theorem rget_some (hlf : L.length < E.lf) (hl : L.length < 1000000) (c : RefAt s q v L room h ms) (hG : s.Good) {k : ByteArray} {i : Nat} {x : Item} (hi : fidx k L = some i) (hx : L[i]? = some x) (hm : 0 ≤ h ∧ h < 9223372036854775807) :
    W (dcall E (d + 2) (.func (.func 10) #[] #[]) [.pointer (some ⟨q, 0, none⟩), .string k] s) fun r => ∃ w, r.1 = .tuple ⟨[.int .i64 x.2, .bool true]⟩ ∧ Ext [q] s r.2 ∧ (∀ j, j ∈ blk w → s.next ≤ j) ∧ RefAt r.2 q w (x :: L.eraseIdx i) room (h + 1) ms := by
  have hfind := find_ok hE hlf hl c k (d := d)
  rw [hi] at hfind
  have gq := c.gq
  have wq := c.wq
  have hql := DS.get_lt' gq
  have hil := (List.getElem?_eq_some_iff.1 hx).1
  have e1 : ¬ (i : Int) < 0 := by omega
  have wd : dwrap .i64 (h + 1) = h + 1 := dwrap_in (by omega) (by omega)
  obtain ⟨b, sp, hv, hsp, hb, hwb⟩ := c.sl.at (fun e => by have := rows_len L; rw [e] at this; simp at this; omega)
  rw [rows_len] at hv
  have hbq : ¬ b = q := fun e => c.ne (by rw [hv]; simp [blk, e])
  have hqb : ¬ q = b := fun e => hbq e.symm
  have hbl := DS.get_lt' hb
  have g1 : ∀ o, (s.upd q o).Good := fun o => by rw [DS.upd_good]; exact hG
  have n1 : ∀ o o', ((s.upd q o).new o').get s.next = some o' := fun o o' => by have := DS.new_get_self (s := s.upd q o) (o := o') (g1 o); rwa [DS.upd_next] at this
  have n2 : ∀ o o', ((s.upd q o).new o').get q = some o := fun o o' => by rw [DS.new_get_lt (by rw [DS.upd_next]; exact hql), DS.upd_get_self, gq]; rfl
  have w1 : s.wr s.next = true := (hG _ (Nat.le_refl _)).2
  have hqn : ¬ q = s.next := by omega
  refine W_cps fun Q hQ => ?_
  rw [W_enter0 hE.i10 hE.f10 rfl]
  subst hv
  simp (maxSteps := 4000000) only [WC_seq, WC_region, WC_cond, WC_block, WC_skip, WC_ret, WC_exit, contS_normal, contS_ret, contS_exit, contB_normal, contB_ret, contB_exit, contB_other, contR_ap, contL_ret, contL_exit, contL_normal, WO_nil, WO_pp, WO_pn, WO_g, WO_hn, WO_hp, gateO_tt, gateO_tf, gateO_ft, gateO_ff, condC_true, condC_false, contO_ap, contN_ap, contH_ap, contHN_ap, atS_ap, atD_ap, atG_ap, atB_ap, atL_ap, W_some, W_mv, W_pick, W_bin, W_eq1, W_un, W_cvInt, W_nilck, W_build, W_mkf, W_fadr, W_fld, W_ixL, W_ext, W_blenL, W_ld, W_look, W_blenM, W_st, W_alloc, W_box, W_mkmap, W_mupd, W_bdel, W_call, dpure, dbin, dint, dread, dwrite, eqOne, Ends_ret, Ends_normal, ev_tmp, ev_const, ev_func, putT_some, putT_none, get_put_eq, get_put_ne, Nat.reduceEqDiff, not_false_eq_true, ofList_get, List.getElem?_cons_zero, List.getElem?_cons_succ, Option.getD_some, dresults, tupled, List.map_cons, List.map_nil, ldV_at, Cells.get, getN, Nat.zero_add, Nat.reduceAdd, st_wr, cells_int, cells_bool, cells_str, cells_ptr, cells_slice, cells_map, cells_func, cells_agg, List.length_cons, List.length_nil, allOne, oneCellD, Bool.and_self, Bool.and_true, Bool.true_and, Bool.and_eq_true, Nat.beq_eq, Nat.ble_eq, Nat.blt_eq, Nat.reduceLeDiff, Nat.le_refl, and_self, and_true, true_and, if_true, if_false, ite_true, ite_false, reduceCtorEq, Bool.not_true, Bool.not_false, Bool.false_eq_true, DS.wrC, Cells.size, Cells.fillFrom, Cells.set, setN, fillParts, List.take_zero, List.take_succ_cons, List.drop_succ_cons, List.drop_zero, List.nil_append, List.cons_append, List.take_nil, List.drop_nil, List.append_nil, pp, pv, pw, pg, DS.upd_get_self, DS.upd_get_ne, DS.upd_next, DS.upd_wr, DS.upd_vis, DS.new_next, DS.new_wr, DS.new_vis, Option.map_some, Option.isSome_some, DS.set_upd, W_slV, W_app, W_bslice, Option.map_none, repeatZ, Nat.reduceMul, W_atL, atL_ap, W_ldA, ldA, unmask_mask, hidden_nil, List.length_append, setParams_nil, setParams_cons, Nat.add_zero, asIdx_cast, Nat.mul_one, Nat.zero_mul, decide_true, decide_false, List.toList_toArray, eq_self, Int.reduceEq, Int.reduceLT, Int.reduceLE, Option.isNone_none, Option.isNone_some, foot, mask_next, unmask_next, mask_get, hidden, noteAt, Bool.or_false, Bool.false_and, DS.read, Cells.take, d10, hfind, posI, e1, gq, wq, wd, hb, hbq, rows_get0 hx, rows_get1 hx, n1, w1, hil]
  obtain ⟨S, hS⟩ : ∃ S : DS, S = (((s.upd q (.cells (.list [.slice (some ⟨b, 0, sp⟩) L.length L.length, .int .i64 room, .int .i64 (h + 1), .int .i64 ms]) false)).new (.cells (.list [.string { data := #[] }, .int .i64 0]) false)).upd s.next (.cells (.list [.string x.1, .int .i64 x.2]) false)) := ⟨_, rfl⟩
  rw [← hS]
  have hGS : S.Good := by rw [hS, DS.upd_good]; exact DS.new_good (g1 _)
  have hSn : S.next = s.next + 1 := by simp only [hS, DS.upd_next, DS.new_next]
  have XS : Ext [q] s S := by rw [hS]; exact (Ext.upd (F := [q]) (k := q) (.inl (by simp))).trans ((Ext.new (F := [q])).trans (Ext.upd (F := [s.next]) (.inl (by simp))) (by simp [DS.upd_next])) (by simp)
  have cS : RefAt S q (.slice (some ⟨b, 0, sp⟩) L.length L.length) L room (h + 1) ms := by
    refine ⟨by rw [hS, DS.upd_get_ne hqn, n2], XS.wrs wq, c.sl.keep XS (fun j hj => by simp; intro e; subst e; exact c.ne hj), c.ne⟩
  have hSx : S.get s.next = some (.cells (.list [.string x.1, .int .i64 x.2]) false) := by rw [hS, DS.upd_get_self, n1]; rfl
  have hSg : ∀ o, (S.new o).get (s.next + 1) = some o := fun o => by have := DS.new_get_self (s := S) (o := o) hGS; rwa [hSn] at this
  have hst : ∀ k, k ∈ blk (.slice (some ⟨b, 0, sp⟩) L.length L.length) → k = b := fun k hk => by simpa [blk] using hk
  have cT : ∀ o, RefAt (S.new o) q (.slice (some ⟨b, 0, sp⟩) L.length L.length) L room (h + 1) ms := fun o => cS.keep (Ext.new (F := [])) (by simp) (by simp)
  refine W.masked (hE.fr _) (without_ok hE hl ((cT _).mask ?_) (mask_good (DS.new_good hGS) ?_) hil) ?_
  · intro k hk
    have hk2 : k < s.next := by
      rcases List.mem_cons.1 hk with rfl | hk
      · exact hql
      · rw [hst k hk]; exact hbl
    exact ⟨by (simp only [hidden, shielded, noteAt, memN, Bool.or_false, Bool.or_eq_false_iff, Bool.and_eq_false_iff, bleF, bltF, beqF, true_and, and_true, true_or, or_true] <;> omega), by (simp only [hidden, shielded, noteAt, memN, Bool.or_false, Bool.or_eq_false_iff, Bool.and_eq_false_iff, bleF, bltF, beqF, true_and, and_true, true_or, or_true] <;> omega)⟩
  · intro k hk
    have hk2 : s.next + 2 ≤ k := by have : S.next + 1 ≤ k := hk; omega
    exact ⟨by (simp only [hidden, shielded, noteAt, memN, Bool.or_false, Bool.or_eq_false_iff, Bool.and_eq_false_iff, bleF, bltF, beqF, true_and, and_true, true_or, or_true] <;> omega), by (simp only [hidden, shielded, noteAt, memN, Bool.or_false, Bool.or_eq_false_iff, Bool.and_eq_false_iff, bleF, bltF, beqF, true_and, and_true, true_or, or_true] <;> omega)⟩
  rintro v3 s3 ⟨x3, X3, b3⟩ df
  simp only at x3 X3 b3
  have X3' := Ext.unmask' X3 df
  have b3' : ∀ k, k ∈ blk v3 → s.next + 2 ≤ k := fun k hk => by have : S.next + 1 ≤ k := b3 k hk; omega
  have x3' := x3.of (s' := unmask (S.new (.cells (.list [.string x.1, .int .i64 x.2]) false)) s3) fun k hk => by
    have hk2 := b3' k hk
    refine ⟨unmask_at (by (simp only [hidden, shielded, noteAt, memN, Bool.or_false, Bool.or_eq_false_iff, Bool.and_eq_false_iff, bleF, bltF, beqF, true_and, and_true, true_or, or_true] <;> omega)) X3, fun hw => ?_⟩
    rw [X3.wr] at hw
    simp [mask] at hw
    exact hw.1.1
  have XT : Ext [q] s (unmask (S.new (.cells (.list [.string x.1, .int .i64 x.2]) false)) s3) := XS.trans' (Ext.new.trans' (X3'.weaken (by simp)))
  have cU := (cT (.cells (.list [.string x.1, .int .i64 x.2]) false)).keep X3' (by simp) (by simp)
  obtain ⟨a3, hv3⟩ := x3.shape
  simp (maxSteps := 4000000) only [WC_seq, WC_region, WC_cond, WC_block, WC_skip, WC_ret, WC_exit, contS_normal, contS_ret, contS_exit, contB_normal, contB_ret, contB_exit, contB_other, contR_ap, contL_ret, contL_exit, contL_normal, WO_nil, WO_pp, WO_pn, WO_g, WO_hn, WO_hp, gateO_tt, gateO_tf, gateO_ft, gateO_ff, condC_true, condC_false, contO_ap, contN_ap, contH_ap, contHN_ap, atS_ap, atD_ap, atG_ap, atB_ap, atL_ap, W_some, W_mv, W_pick, W_bin, W_eq1, W_un, W_cvInt, W_nilck, W_build, W_mkf, W_fadr, W_fld, W_ixL, W_ext, W_blenL, W_ld, W_look, W_blenM, W_st, W_alloc, W_box, W_mkmap, W_mupd, W_bdel, W_call, dpure, dbin, dint, dread, dwrite, eqOne, Ends_ret, Ends_normal, ev_tmp, ev_const, ev_func, putT_some, putT_none, get_put_eq, get_put_ne, Nat.reduceEqDiff, not_false_eq_true, ofList_get, List.getElem?_cons_zero, List.getElem?_cons_succ, Option.getD_some, dresults, tupled, List.map_cons, List.map_nil, ldV_at, Cells.get, getN, Nat.zero_add, Nat.reduceAdd, st_wr, cells_int, cells_bool, cells_str, cells_ptr, cells_slice, cells_map, cells_func, cells_agg, List.length_cons, List.length_nil, allOne, oneCellD, Bool.and_self, Bool.and_true, Bool.true_and, Bool.and_eq_true, Nat.beq_eq, Nat.ble_eq, Nat.blt_eq, Nat.reduceLeDiff, Nat.le_refl, and_self, and_true, true_and, if_true, if_false, ite_true, ite_false, reduceCtorEq, Bool.not_true, Bool.not_false, Bool.false_eq_true, DS.wrC, Cells.size, Cells.fillFrom, Cells.set, setN, fillParts, List.take_zero, List.take_succ_cons, List.drop_succ_cons, List.drop_zero, List.nil_append, List.cons_append, List.take_nil, List.drop_nil, List.append_nil, pp, pv, pw, pg, DS.upd_get_self, DS.upd_get_ne, DS.upd_next, DS.upd_wr, DS.upd_vis, DS.new_next, DS.new_wr, DS.new_vis, Option.map_some, Option.isSome_some, DS.set_upd, W_slV, W_app, W_bslice, Option.map_none, repeatZ, Nat.reduceMul, W_atL, atL_ap, W_ldA, ldA, unmask_mask, hidden_nil, List.length_append, setParams_nil, setParams_cons, Nat.add_zero, asIdx_cast, Nat.mul_one, Nat.zero_mul, decide_true, decide_false, List.toList_toArray, eq_self, Int.reduceEq, Int.reduceLT, Int.reduceLE, Option.isNone_none, Option.isNone_some, foot, mask_next, unmask_next, mask_get, hidden, noteAt, Bool.or_false, Bool.false_and, DS.read, Cells.take]
  refine W.mono (appV_ok (lx := [row x]) (ly := rows (L.eraseIdx i)) (.inr ⟨s.next + 1, none, rfl, .inl rfl, ?_, ?_⟩) (x3'.view (rows_ok _)) (rows_ok [x]) (rows_ok _) (XT.good hG) ?_ ?_) ?_
  · exact X3'.keep (hSg _) (by simp)
  · exact XT.wrs (hG _ (by omega)).2
  · simp [rows, List.length_eraseIdx]; split <;> omega
  · simp [rows, List.length_eraseIdx]; split <;> omega
  rintro ⟨v4, s4⟩ ⟨x4, X4, b4⟩
  simp only [blk] at x4 X4 b4
  have gq4 := X4.keep cU.gq (by simp; omega)
  have wq4 := X4.wrs cU.wq
  have gn4 := X4.keep (X3'.keep ((Ext.new (F := []) (o := .cells (.list [.string x.1, .int .i64 x.2]) false)).keep hSx (by simp)) (by simp)) (show s.next ∉ [s.next + 1] by simp)
  obtain ⟨a4, rfl⟩ := x4.shape
  have hnq' : ¬ s.next = q := fun e => hqn e.symm
  simp (maxSteps := 4000000) only [WC_seq, WC_region, WC_cond, WC_block, WC_skip, WC_ret, WC_exit, contS_normal, contS_ret, contS_exit, contB_normal, contB_ret, contB_exit, contB_other, contR_ap, contL_ret, contL_exit, contL_normal, WO_nil, WO_pp, WO_pn, WO_g, WO_hn, WO_hp, gateO_tt, gateO_tf, gateO_ft, gateO_ff, condC_true, condC_false, contO_ap, contN_ap, contH_ap, contHN_ap, atS_ap, atD_ap, atG_ap, atB_ap, atL_ap, W_some, W_mv, W_pick, W_bin, W_eq1, W_un, W_cvInt, W_nilck, W_build, W_mkf, W_fadr, W_fld, W_ixL, W_ext, W_blenL, W_ld, W_look, W_blenM, W_st, W_alloc, W_box, W_mkmap, W_mupd, W_bdel, W_call, dpure, dbin, dint, dread, dwrite, eqOne, Ends_ret, Ends_normal, ev_tmp, ev_const, ev_func, putT_some, putT_none, get_put_eq, get_put_ne, Nat.reduceEqDiff, not_false_eq_true, ofList_get, List.getElem?_cons_zero, List.getElem?_cons_succ, Option.getD_some, dresults, tupled, List.map_cons, List.map_nil, ldV_at, Cells.get, getN, Nat.zero_add, Nat.reduceAdd, st_wr, cells_int, cells_bool, cells_str, cells_ptr, cells_slice, cells_map, cells_func, cells_agg, List.length_cons, List.length_nil, allOne, oneCellD, Bool.and_self, Bool.and_true, Bool.true_and, Bool.and_eq_true, Nat.beq_eq, Nat.ble_eq, Nat.blt_eq, Nat.reduceLeDiff, Nat.le_refl, and_self, and_true, true_and, if_true, if_false, ite_true, ite_false, reduceCtorEq, Bool.not_true, Bool.not_false, Bool.false_eq_true, DS.wrC, Cells.size, Cells.fillFrom, Cells.set, setN, fillParts, List.take_zero, List.take_succ_cons, List.drop_succ_cons, List.drop_zero, List.nil_append, List.cons_append, List.take_nil, List.drop_nil, List.append_nil, pp, pv, pw, pg, DS.upd_get_self, DS.upd_get_ne, DS.upd_next, DS.upd_wr, DS.upd_vis, DS.new_next, DS.new_wr, DS.new_vis, Option.map_some, Option.isSome_some, DS.set_upd, W_slV, W_app, W_bslice, Option.map_none, repeatZ, Nat.reduceMul, W_atL, atL_ap, W_ldA, ldA, unmask_mask, hidden_nil, List.length_append, setParams_nil, setParams_cons, Nat.add_zero, asIdx_cast, Nat.mul_one, Nat.zero_mul, decide_true, decide_false, List.toList_toArray, eq_self, Int.reduceEq, Int.reduceLT, Int.reduceLE, Option.isNone_none, Option.isNone_some, foot, mask_next, unmask_next, mask_get, hidden, noteAt, Bool.or_false, Bool.false_and, DS.read, Cells.take, gq4, wq4, gn4, hnq']
  have hlen : (rows (L.eraseIdx i)).length + 1 = ([row x] ++ rows (L.eraseIdx i)).length := by simp
  have X5 : ∀ o, Ext [q] s (s4.upd q o) := fun o => (XT.trans X4 (by simp)).trans' (Ext.upd (F := [q]) (k := q) (.inl (by simp)))
  have hn4 : ∀ k, k ∈ blk (.slice a4 ((rows (L.eraseIdx i)).length + 1) ((rows (L.eraseIdx i)).length + 1)) → s.next ≤ k := fun k hk => by
    rcases b4 k (by rwa [blk_len] at hk) with h | h
    · simp at h; omega
    · exact Nat.le_trans XT.le h
  have hqn4 : q ∉ blk (.slice a4 ((rows (L.eraseIdx i)).length + 1) ((rows (L.eraseIdx i)).length + 1)) := fun hk => by have := hn4 q hk; omega
  refine hQ _ ⟨_, rfl, X5 _, hn4, ⟨?_, ?_, ?_, hqn4⟩⟩
  · simp only [DS.upd_get_self, gq4, Option.map_some]
  · simp only [DS.upd_wr, wq4]
  · rw [show rows (x :: L.eraseIdx i) = [row x] ++ rows (L.eraseIdx i) from rfl]
    have := x4.keep (Ext.upd (F := [q]) (k := q) (o := .cells (.list [.slice a4 ((rows (L.eraseIdx i)).length + 1) ((rows (L.eraseIdx i)).length + 1), .int .i64 room, .int .i64 (h + 1), .int .i64 ms]) false) (.inl (by simp))) (fun j hj => by simp; intro e; subst e; exact hqn4 (by rwa [blk_len] at hj))
    rw [hlen]
    rw [hlen] at this
    exact this
theorem rput_ok (hlf : L.length < E.lf) (hl : L.length < 1000000) (c : RefAt s q v L room h ms) (hG : s.Good) (k : ByteArray) (y : Int) (hroom : 1 ≤ room) :
    W (dcall E (d + 2) (.func (.func 12) #[] #[]) [.pointer (some ⟨q, 0, none⟩), .string k, .int .i64 y] s) fun r => ∃ w, Ext [q] s r.2 ∧ (∀ j, j ∈ blk w → s.next ≤ j) ∧
      ((∃ i, fidx k L = some i ∧ r.1 = .bool false ∧ RefAt r.2 q w ((k, y) :: L.eraseIdx i) room h ms) ∨ (fidx k L = none ∧ (L.length : Int) < room ∧ r.1 = .bool false ∧ RefAt r.2 q w ((k, y) :: L) room h ms) ∨
       (fidx k L = none ∧ room ≤ (L.length : Int) ∧ r.1 = .bool true ∧ RefAt r.2 q w ((k, y) :: L.eraseIdx (L.length - 1)) room h ms)) := by
  have hfind := find_ok hE hlf hl c k (d := d)
  have gq := c.gq
  have wq := c.wq
  have hql := DS.get_lt' gq
  obtain ⟨av, hv⟩ := c.sl.shape
  refine W_cps fun Q hQ => ?_
  rw [W_enter0 hE.i12 hE.f12 rfl]
  cases hi : fidx k L with
  | some i =>
    rw [hi] at hfind
    obtain ⟨x, hx, _⟩ := fidx_lt hi
    have hil := (List.getElem?_eq_some_iff.1 hx).1
    have e1 : (0 : Int) ≤ (i : Int) := by omega
    simp (maxSteps := 4000000) only [WC_seq, WC_region, WC_cond, WC_block, WC_skip, WC_ret, WC_exit, contS_normal, contS_ret, contS_exit, contB_normal, contB_ret, contB_exit, contB_other, contR_ap, contL_ret, contL_exit, contL_normal, WO_nil, WO_pp, WO_pn, WO_g, WO_hn, WO_hp, gateO_tt, gateO_tf, gateO_ft, gateO_ff, condC_true, condC_false, contO_ap, contN_ap, contH_ap, contHN_ap, atS_ap, atD_ap, atG_ap, atB_ap, atL_ap, W_some, W_mv, W_pick, W_bin, W_eq1, W_un, W_cvInt, W_nilck, W_build, W_mkf, W_fadr, W_fld, W_ixL, W_ext, W_blenL, W_ld, W_look, W_blenM, W_st, W_alloc, W_box, W_mkmap, W_mupd, W_bdel, W_call, dpure, dbin, dint, dread, dwrite, eqOne, Ends_ret, Ends_normal, ev_tmp, ev_const, ev_func, putT_some, putT_none, get_put_eq, get_put_ne, Nat.reduceEqDiff, not_false_eq_true, ofList_get, List.getElem?_cons_zero, List.getElem?_cons_succ, Option.getD_some, dresults, tupled, List.map_cons, List.map_nil, ldV_at, Cells.get, getN, Nat.zero_add, Nat.reduceAdd, st_wr, cells_int, cells_bool, cells_str, cells_ptr, cells_slice, cells_map, cells_func, cells_agg, List.length_cons, List.length_nil, allOne, oneCellD, Bool.and_self, Bool.and_true, Bool.true_and, Bool.and_eq_true, Nat.beq_eq, Nat.ble_eq, Nat.blt_eq, Nat.reduceLeDiff, Nat.le_refl, and_self, and_true, true_and, if_true, if_false, ite_true, ite_false, reduceCtorEq, Bool.not_true, Bool.not_false, Bool.false_eq_true, DS.wrC, Cells.size, Cells.fillFrom, Cells.set, setN, fillParts, List.take_zero, List.take_succ_cons, List.drop_succ_cons, List.drop_zero, List.nil_append, List.cons_append, List.take_nil, List.drop_nil, List.append_nil, pp, pv, pw, pg, DS.upd_get_self, DS.upd_get_ne, DS.upd_next, DS.upd_wr, DS.upd_vis, DS.new_next, DS.new_wr, DS.new_vis, Option.map_some, Option.isSome_some, DS.set_upd, W_slV, W_app, W_bslice, Option.map_none, repeatZ, Nat.reduceMul, W_atL, atL_ap, W_ldA, ldA, unmask_mask, hidden_nil, List.length_append, setParams_nil, setParams_cons, Nat.add_zero, asIdx_cast, Nat.mul_one, Nat.zero_mul, decide_true, decide_false, List.toList_toArray, eq_self, Int.reduceEq, Int.reduceLT, Int.reduceLE, Option.isNone_none, Option.isNone_some, foot, mask_next, unmask_next, mask_get, hidden, noteAt, Bool.or_false, Bool.false_and, DS.read, Cells.take, d12, hfind, posI, e1]
    refine W.mono (without_ok hE hl c hG (i := i) ?_) ?_
    · omega
    rintro ⟨w, s1⟩ ⟨x1, X1, b1⟩
    simp only at x1 X1 b1
    have c1 := c.keep X1 (by simp) (by simp)
    have gq1 := c1.gq
    have wq1 := c1.wq
    have hqw : q ∉ blk w := fun h => by have := b1 q h; omega
    have X2 : ∀ o, Ext [q] s (s1.upd q o) := fun o => (X1.weaken (by simp)).trans' (Ext.upd (F := [q]) (k := q) (.inl (by simp)))
    have c2 : RefAt (s1.upd q (.cells (.list [w, .int .i64 room, .int .i64 h, .int .i64 ms]) false)) q w (L.eraseIdx (i)) room h ms :=
      ⟨by simp only [DS.upd_get_self, gq1, Option.map_some], by simp only [DS.upd_wr, wq1], x1.keep (Ext.upd (F := [q]) (k := q) (.inl (by simp))) (fun j hj => by simp; intro e; subst e; exact hqw hj), hqw⟩
    have n3 : ∀ o o', ((s1.upd q o).new o').get q = some o := fun o o' => by rw [DS.new_get_lt (by rw [DS.upd_next]; exact DS.get_lt' gq1), DS.upd_get_self, gq1]; rfl
    obtain ⟨a, rfl⟩ := x1.shape
    simp (maxSteps := 4000000) only [WC_seq, WC_region, WC_cond, WC_block, WC_skip, WC_ret, WC_exit, contS_normal, contS_ret, contS_exit, contB_normal, contB_ret, contB_exit, contB_other, contR_ap, contL_ret, contL_exit, contL_normal, WO_nil, WO_pp, WO_pn, WO_g, WO_hn, WO_hp, gateO_tt, gateO_tf, gateO_ft, gateO_ff, condC_true, condC_false, contO_ap, contN_ap, contH_ap, contHN_ap, atS_ap, atD_ap, atG_ap, atB_ap, atL_ap, W_some, W_mv, W_pick, W_bin, W_eq1, W_un, W_cvInt, W_nilck, W_build, W_mkf, W_fadr, W_fld, W_ixL, W_ext, W_blenL, W_ld, W_look, W_blenM, W_st, W_alloc, W_box, W_mkmap, W_mupd, W_bdel, W_call, dpure, dbin, dint, dread, dwrite, eqOne, Ends_ret, Ends_normal, ev_tmp, ev_const, ev_func, putT_some, putT_none, get_put_eq, get_put_ne, Nat.reduceEqDiff, not_false_eq_true, ofList_get, List.getElem?_cons_zero, List.getElem?_cons_succ, Option.getD_some, dresults, tupled, List.map_cons, List.map_nil, ldV_at, Cells.get, getN, Nat.zero_add, Nat.reduceAdd, st_wr, cells_int, cells_bool, cells_str, cells_ptr, cells_slice, cells_map, cells_func, cells_agg, List.length_cons, List.length_nil, allOne, oneCellD, Bool.and_self, Bool.and_true, Bool.true_and, Bool.and_eq_true, Nat.beq_eq, Nat.ble_eq, Nat.blt_eq, Nat.reduceLeDiff, Nat.le_refl, and_self, and_true, true_and, if_true, if_false, ite_true, ite_false, reduceCtorEq, Bool.not_true, Bool.not_false, Bool.false_eq_true, DS.wrC, Cells.size, Cells.fillFrom, Cells.set, setN, fillParts, List.take_zero, List.take_succ_cons, List.drop_succ_cons, List.drop_zero, List.nil_append, List.cons_append, List.take_nil, List.drop_nil, List.append_nil, pp, pv, pw, pg, DS.upd_get_self, DS.upd_get_ne, DS.upd_next, DS.upd_wr, DS.upd_vis, DS.new_next, DS.new_wr, DS.new_vis, Option.map_some, Option.isSome_some, DS.set_upd, W_slV, W_app, W_bslice, Option.map_none, repeatZ, Nat.reduceMul, W_atL, atL_ap, W_ldA, ldA, unmask_mask, hidden_nil, List.length_append, setParams_nil, setParams_cons, Nat.add_zero, asIdx_cast, Nat.mul_one, Nat.zero_mul, decide_true, decide_false, List.toList_toArray, eq_self, Int.reduceEq, Int.reduceLT, Int.reduceLE, Option.isNone_none, Option.isNone_some, foot, mask_next, unmask_next, mask_get, hidden, noteAt, Bool.or_false, Bool.false_and, DS.read, Cells.take, gq1, wq1, n3]
    have g3 : ∀ o o', ((s1.upd q o).new o').get s1.next = some o' := fun o o' => by have := DS.new_get_self (s := s1.upd q o) (o := o') ((X2 _).good hG); rwa [DS.upd_next] at this
    have hnS : ∀ o, (s1.upd q o).next = s1.next := fun o => DS.upd_next
    have hle : s.next ≤ s1.next := X1.le
    have hNS : (s1.upd q (.cells (.list [.slice a (rows (L.eraseIdx i)).length (rows (L.eraseIdx i)).length, .int .i64 room, .int .i64 h, .int .i64 ms]) false)).next = s1.next := (hnS _)
    refine W.mono (appV_ok (lx := [row (k, y)]) (ly := rows (L.eraseIdx i)) (.inr ⟨s1.next, none, rfl, .inl rfl, (g3 _ _), (by simp only [DS.new_wr, DS.upd_wr]; exact (X1.good hG _ (Nat.le_refl _)).2)⟩) ((c2).sl.view (rows_ok _) |>.of fun j hj => DS.new_get_lt ((c2).sl.lt j hj)) (rows_ok [(k, y)]) (rows_ok _) (DS.new_good (((X2 _)).good hG)) ?_ ?_) ?_
    · simp [rows, List.length_eraseIdx] <;> (first | omega | (split <;> omega))
    · simp [rows, List.length_eraseIdx] <;> (first | omega | (split <;> omega))
    rintro ⟨v4, s4⟩ ⟨x4, X4, b4⟩
    simp only [blk] at x4 X4 b4
    have XU : Ext [q] s s4 := (((X2 _)).trans' Ext.new).trans X4 (by simp only [List.mem_singleton]; intro j hj; right; subst hj; exact hle)
    have hqS : q < (s1.upd q (.cells (.list [.slice a (rows (L.eraseIdx i)).length (rows (L.eraseIdx i)).length, .int .i64 room, .int .i64 h, .int .i64 ms]) false)).next := DS.get_lt' (c2).gq
    rw [hNS] at hqS
    have gq4 := X4.keep ((Ext.new (F := [])).keep (c2).gq (by simp)) (by simp; omega)
    have wq4 := XU.wrs wq
    obtain ⟨a4, rfl⟩ := x4.shape
    simp (maxSteps := 4000000) only [WC_seq, WC_region, WC_cond, WC_block, WC_skip, WC_ret, WC_exit, contS_normal, contS_ret, contS_exit, contB_normal, contB_ret, contB_exit, contB_other, contR_ap, contL_ret, contL_exit, contL_normal, WO_nil, WO_pp, WO_pn, WO_g, WO_hn, WO_hp, gateO_tt, gateO_tf, gateO_ft, gateO_ff, condC_true, condC_false, contO_ap, contN_ap, contH_ap, contHN_ap, atS_ap, atD_ap, atG_ap, atB_ap, atL_ap, W_some, W_mv, W_pick, W_bin, W_eq1, W_un, W_cvInt, W_nilck, W_build, W_mkf, W_fadr, W_fld, W_ixL, W_ext, W_blenL, W_ld, W_look, W_blenM, W_st, W_alloc, W_box, W_mkmap, W_mupd, W_bdel, W_call, dpure, dbin, dint, dread, dwrite, eqOne, Ends_ret, Ends_normal, ev_tmp, ev_const, ev_func, putT_some, putT_none, get_put_eq, get_put_ne, Nat.reduceEqDiff, not_false_eq_true, ofList_get, List.getElem?_cons_zero, List.getElem?_cons_succ, Option.getD_some, dresults, tupled, List.map_cons, List.map_nil, ldV_at, Cells.get, getN, Nat.zero_add, Nat.reduceAdd, st_wr, cells_int, cells_bool, cells_str, cells_ptr, cells_slice, cells_map, cells_func, cells_agg, List.length_cons, List.length_nil, allOne, oneCellD, Bool.and_self, Bool.and_true, Bool.true_and, Bool.and_eq_true, Nat.beq_eq, Nat.ble_eq, Nat.blt_eq, Nat.reduceLeDiff, Nat.le_refl, and_self, and_true, true_and, if_true, if_false, ite_true, ite_false, reduceCtorEq, Bool.not_true, Bool.not_false, Bool.false_eq_true, DS.wrC, Cells.size, Cells.fillFrom, Cells.set, setN, fillParts, List.take_zero, List.take_succ_cons, List.drop_succ_cons, List.drop_zero, List.nil_append, List.cons_append, List.take_nil, List.drop_nil, List.append_nil, pp, pv, pw, pg, DS.upd_get_self, DS.upd_get_ne, DS.upd_next, DS.upd_wr, DS.upd_vis, DS.new_next, DS.new_wr, DS.new_vis, Option.map_some, Option.isSome_some, DS.set_upd, W_slV, W_app, W_bslice, Option.map_none, repeatZ, Nat.reduceMul, W_atL, atL_ap, W_ldA, ldA, unmask_mask, hidden_nil, List.length_append, setParams_nil, setParams_cons, Nat.add_zero, asIdx_cast, Nat.mul_one, Nat.zero_mul, decide_true, decide_false, List.toList_toArray, eq_self, Int.reduceEq, Int.reduceLT, Int.reduceLE, Option.isNone_none, Option.isNone_some, foot, mask_next, unmask_next, mask_get, hidden, noteAt, Bool.or_false, Bool.false_and, DS.read, Cells.take, gq4, wq4]
    have X5 : ∀ o, Ext [q] s (s4.upd q o) := fun o => XU.trans' (Ext.upd (F := [q]) (k := q) (.inl (by simp)))
    have hn4 : ∀ j, j ∈ blk (.slice a4 ((rows (L.eraseIdx i)).length + 1) ((rows (L.eraseIdx i)).length + 1)) → s.next ≤ j := fun j hj => by
      rcases b4 j (by rwa [blk_len] at hj) with h | h
      · simp at h; omega
      · rw [DS.new_next, hNS] at h; omega
    have hqn4 : q ∉ blk (.slice a4 ((rows (L.eraseIdx i)).length + 1) ((rows (L.eraseIdx i)).length + 1)) := fun hk => by have := hn4 q hk; omega
    have hlen : (rows (L.eraseIdx i)).length + 1 = ([row (k, y)] ++ rows (L.eraseIdx i)).length := by simp
    have hR : RefAt (s4.upd q (.cells (.list [.slice a4 ((rows (L.eraseIdx i)).length + 1) ((rows (L.eraseIdx i)).length + 1), .int .i64 room, .int .i64 h, .int .i64 ms]) false)) q (.slice a4 ((rows (L.eraseIdx i)).length + 1) ((rows (L.eraseIdx i)).length + 1)) ((k, y) :: (L.eraseIdx i)) room h ms := by
      refine ⟨?_, ?_, ?_, hqn4⟩
      · simp only [DS.upd_get_self, gq4, Option.map_some]
      · simp only [DS.upd_wr, wq4]
      · rw [show rows ((k, y) :: (L.eraseIdx i)) = [row (k, y)] ++ rows (L.eraseIdx i) from rfl]
        have := x4.keep (Ext.upd (F := [q]) (k := q) (o := .cells (.list [.slice a4 ((rows (L.eraseIdx i)).length + 1) ((rows (L.eraseIdx i)).length + 1), .int .i64 room, .int .i64 h, .int .i64 ms]) false) (.inl (by simp))) (fun j hj => by simp; intro e; subst e; exact hqn4 (by rwa [blk_len] at hj))
        rw [hlen]
        rw [hlen] at this
        exact this
    exact hQ _ ⟨_, X5 _, hn4, .inl ⟨i, hi, rfl, hR⟩⟩
  | none =>
    rw [hi] at hfind
    have e0 : ¬ (0 : Int) ≤ -1 := by omega
    rw [rows_len] at hv
    by_cases hfull : room ≤ (L.length : Int)
    · have wd : dwrap .i64 ((L.length : Int) - 1) = ((L.length - 1 : Nat) : Int) := by rw [dwrap_in (by omega) (by omega)]; omega
      subst hv
      simp (maxSteps := 4000000) only [WC_seq, WC_region, WC_cond, WC_block, WC_skip, WC_ret, WC_exit, contS_normal, contS_ret, contS_exit, contB_normal, contB_ret, contB_exit, contB_other, contR_ap, contL_ret, contL_exit, contL_normal, WO_nil, WO_pp, WO_pn, WO_g, WO_hn, WO_hp, gateO_tt, gateO_tf, gateO_ft, gateO_ff, condC_true, condC_false, contO_ap, contN_ap, contH_ap, contHN_ap, atS_ap, atD_ap, atG_ap, atB_ap, atL_ap, W_some, W_mv, W_pick, W_bin, W_eq1, W_un, W_cvInt, W_nilck, W_build, W_mkf, W_fadr, W_fld, W_ixL, W_ext, W_blenL, W_ld, W_look, W_blenM, W_st, W_alloc, W_box, W_mkmap, W_mupd, W_bdel, W_call, dpure, dbin, dint, dread, dwrite, eqOne, Ends_ret, Ends_normal, ev_tmp, ev_const, ev_func, putT_some, putT_none, get_put_eq, get_put_ne, Nat.reduceEqDiff, not_false_eq_true, ofList_get, List.getElem?_cons_zero, List.getElem?_cons_succ, Option.getD_some, dresults, tupled, List.map_cons, List.map_nil, ldV_at, Cells.get, getN, Nat.zero_add, Nat.reduceAdd, st_wr, cells_int, cells_bool, cells_str, cells_ptr, cells_slice, cells_map, cells_func, cells_agg, List.length_cons, List.length_nil, allOne, oneCellD, Bool.and_self, Bool.and_true, Bool.true_and, Bool.and_eq_true, Nat.beq_eq, Nat.ble_eq, Nat.blt_eq, Nat.reduceLeDiff, Nat.le_refl, and_self, and_true, true_and, if_true, if_false, ite_true, ite_false, reduceCtorEq, Bool.not_true, Bool.not_false, Bool.false_eq_true, DS.wrC, Cells.size, Cells.fillFrom, Cells.set, setN, fillParts, List.take_zero, List.take_succ_cons, List.drop_succ_cons, List.drop_zero, List.nil_append, List.cons_append, List.take_nil, List.drop_nil, List.append_nil, pp, pv, pw, pg, DS.upd_get_self, DS.upd_get_ne, DS.upd_next, DS.upd_wr, DS.upd_vis, DS.new_next, DS.new_wr, DS.new_vis, Option.map_some, Option.isSome_some, DS.set_upd, W_slV, W_app, W_bslice, Option.map_none, repeatZ, Nat.reduceMul, W_atL, atL_ap, W_ldA, ldA, unmask_mask, hidden_nil, List.length_append, setParams_nil, setParams_cons, Nat.add_zero, asIdx_cast, Nat.mul_one, Nat.zero_mul, decide_true, decide_false, List.toList_toArray, eq_self, Int.reduceEq, Int.reduceLT, Int.reduceLE, Option.isNone_none, Option.isNone_some, foot, mask_next, unmask_next, mask_get, hidden, noteAt, Bool.or_false, Bool.false_and, DS.read, Cells.take, d12, hfind, posI, e0, gq, hfull, wd]
      refine W.mono (without_ok hE hl c hG (i := (L.length - 1)) ?_) ?_
      · omega
      rintro ⟨w, s1⟩ ⟨x1, X1, b1⟩
      simp only at x1 X1 b1
      have c1 := c.keep X1 (by simp) (by simp)
      have gq1 := c1.gq
      have wq1 := c1.wq
      have hqw : q ∉ blk w := fun h => by have := b1 q h; omega
      have X2 : ∀ o, Ext [q] s (s1.upd q o) := fun o => (X1.weaken (by simp)).trans' (Ext.upd (F := [q]) (k := q) (.inl (by simp)))
      have c2 : RefAt (s1.upd q (.cells (.list [w, .int .i64 room, .int .i64 h, .int .i64 ms]) false)) q w (L.eraseIdx ((L.length - 1))) room h ms :=
        ⟨by simp only [DS.upd_get_self, gq1, Option.map_some], by simp only [DS.upd_wr, wq1], x1.keep (Ext.upd (F := [q]) (k := q) (.inl (by simp))) (fun j hj => by simp; intro e; subst e; exact hqw hj), hqw⟩
      have n3 : ∀ o o', ((s1.upd q o).new o').get q = some o := fun o o' => by rw [DS.new_get_lt (by rw [DS.upd_next]; exact DS.get_lt' gq1), DS.upd_get_self, gq1]; rfl
      obtain ⟨a, rfl⟩ := x1.shape
      simp (maxSteps := 4000000) only [WC_seq, WC_region, WC_cond, WC_block, WC_skip, WC_ret, WC_exit, contS_normal, contS_ret, contS_exit, contB_normal, contB_ret, contB_exit, contB_other, contR_ap, contL_ret, contL_exit, contL_normal, WO_nil, WO_pp, WO_pn, WO_g, WO_hn, WO_hp, gateO_tt, gateO_tf, gateO_ft, gateO_ff, condC_true, condC_false, contO_ap, contN_ap, contH_ap, contHN_ap, atS_ap, atD_ap, atG_ap, atB_ap, atL_ap, W_some, W_mv, W_pick, W_bin, W_eq1, W_un, W_cvInt, W_nilck, W_build, W_mkf, W_fadr, W_fld, W_ixL, W_ext, W_blenL, W_ld, W_look, W_blenM, W_st, W_alloc, W_box, W_mkmap, W_mupd, W_bdel, W_call, dpure, dbin, dint, dread, dwrite, eqOne, Ends_ret, Ends_normal, ev_tmp, ev_const, ev_func, putT_some, putT_none, get_put_eq, get_put_ne, Nat.reduceEqDiff, not_false_eq_true, ofList_get, List.getElem?_cons_zero, List.getElem?_cons_succ, Option.getD_some, dresults, tupled, List.map_cons, List.map_nil, ldV_at, Cells.get, getN, Nat.zero_add, Nat.reduceAdd, st_wr, cells_int, cells_bool, cells_str, cells_ptr, cells_slice, cells_map, cells_func, cells_agg, List.length_cons, List.length_nil, allOne, oneCellD, Bool.and_self, Bool.and_true, Bool.true_and, Bool.and_eq_true, Nat.beq_eq, Nat.ble_eq, Nat.blt_eq, Nat.reduceLeDiff, Nat.le_refl, and_self, and_true, true_and, if_true, if_false, ite_true, ite_false, reduceCtorEq, Bool.not_true, Bool.not_false, Bool.false_eq_true, DS.wrC, Cells.size, Cells.fillFrom, Cells.set, setN, fillParts, List.take_zero, List.take_succ_cons, List.drop_succ_cons, List.drop_zero, List.nil_append, List.cons_append, List.take_nil, List.drop_nil, List.append_nil, pp, pv, pw, pg, DS.upd_get_self, DS.upd_get_ne, DS.upd_next, DS.upd_wr, DS.upd_vis, DS.new_next, DS.new_wr, DS.new_vis, Option.map_some, Option.isSome_some, DS.set_upd, W_slV, W_app, W_bslice, Option.map_none, repeatZ, Nat.reduceMul, W_atL, atL_ap, W_ldA, ldA, unmask_mask, hidden_nil, List.length_append, setParams_nil, setParams_cons, Nat.add_zero, asIdx_cast, Nat.mul_one, Nat.zero_mul, decide_true, decide_false, List.toList_toArray, eq_self, Int.reduceEq, Int.reduceLT, Int.reduceLE, Option.isNone_none, Option.isNone_some, foot, mask_next, unmask_next, mask_get, hidden, noteAt, Bool.or_false, Bool.false_and, DS.read, Cells.take, gq1, wq1, n3]
      have g3 : ∀ o o', ((s1.upd q o).new o').get s1.next = some o' := fun o o' => by have := DS.new_get_self (s := s1.upd q o) (o := o') ((X2 _).good hG); rwa [DS.upd_next] at this
      have hnS : ∀ o, (s1.upd q o).next = s1.next := fun o => DS.upd_next
      have hle : s.next ≤ s1.next := X1.le
      have hNS : (s1.upd q (.cells (.list [.slice a (rows (L.eraseIdx (L.length - 1))).length (rows (L.eraseIdx (L.length - 1))).length, .int .i64 room, .int .i64 h, .int .i64 ms]) false)).next = s1.next := (hnS _)
      refine W.mono (appV_ok (lx := [row (k, y)]) (ly := rows (L.eraseIdx (L.length - 1))) (.inr ⟨s1.next, none, rfl, .inl rfl, (g3 _ _), (by simp only [DS.new_wr, DS.upd_wr]; exact (X1.good hG _ (Nat.le_refl _)).2)⟩) ((c2).sl.view (rows_ok _) |>.of fun j hj => DS.new_get_lt ((c2).sl.lt j hj)) (rows_ok [(k, y)]) (rows_ok _) (DS.new_good (((X2 _)).good hG)) ?_ ?_) ?_
      · simp [rows, List.length_eraseIdx] <;> (first | omega | (split <;> omega))
      · simp [rows, List.length_eraseIdx] <;> (first | omega | (split <;> omega))
      rintro ⟨v4, s4⟩ ⟨x4, X4, b4⟩
      simp only [blk] at x4 X4 b4
      have XU : Ext [q] s s4 := (((X2 _)).trans' Ext.new).trans X4 (by simp only [List.mem_singleton]; intro j hj; right; subst hj; exact hle)
      have hqS : q < (s1.upd q (.cells (.list [.slice a (rows (L.eraseIdx (L.length - 1))).length (rows (L.eraseIdx (L.length - 1))).length, .int .i64 room, .int .i64 h, .int .i64 ms]) false)).next := DS.get_lt' (c2).gq
      rw [hNS] at hqS
      have gq4 := X4.keep ((Ext.new (F := [])).keep (c2).gq (by simp)) (by simp; omega)
      have wq4 := XU.wrs wq
      obtain ⟨a4, rfl⟩ := x4.shape
      simp (maxSteps := 4000000) only [WC_seq, WC_region, WC_cond, WC_block, WC_skip, WC_ret, WC_exit, contS_normal, contS_ret, contS_exit, contB_normal, contB_ret, contB_exit, contB_other, contR_ap, contL_ret, contL_exit, contL_normal, WO_nil, WO_pp, WO_pn, WO_g, WO_hn, WO_hp, gateO_tt, gateO_tf, gateO_ft, gateO_ff, condC_true, condC_false, contO_ap, contN_ap, contH_ap, contHN_ap, atS_ap, atD_ap, atG_ap, atB_ap, atL_ap, W_some, W_mv, W_pick, W_bin, W_eq1, W_un, W_cvInt, W_nilck, W_build, W_mkf, W_fadr, W_fld, W_ixL, W_ext, W_blenL, W_ld, W_look, W_blenM, W_st, W_alloc, W_box, W_mkmap, W_mupd, W_bdel, W_call, dpure, dbin, dint, dread, dwrite, eqOne, Ends_ret, Ends_normal, ev_tmp, ev_const, ev_func, putT_some, putT_none, get_put_eq, get_put_ne, Nat.reduceEqDiff, not_false_eq_true, ofList_get, List.getElem?_cons_zero, List.getElem?_cons_succ, Option.getD_some, dresults, tupled, List.map_cons, List.map_nil, ldV_at, Cells.get, getN, Nat.zero_add, Nat.reduceAdd, st_wr, cells_int, cells_bool, cells_str, cells_ptr, cells_slice, cells_map, cells_func, cells_agg, List.length_cons, List.length_nil, allOne, oneCellD, Bool.and_self, Bool.and_true, Bool.true_and, Bool.and_eq_true, Nat.beq_eq, Nat.ble_eq, Nat.blt_eq, Nat.reduceLeDiff, Nat.le_refl, and_self, and_true, true_and, if_true, if_false, ite_true, ite_false, reduceCtorEq, Bool.not_true, Bool.not_false, Bool.false_eq_true, DS.wrC, Cells.size, Cells.fillFrom, Cells.set, setN, fillParts, List.take_zero, List.take_succ_cons, List.drop_succ_cons, List.drop_zero, List.nil_append, List.cons_append, List.take_nil, List.drop_nil, List.append_nil, pp, pv, pw, pg, DS.upd_get_self, DS.upd_get_ne, DS.upd_next, DS.upd_wr, DS.upd_vis, DS.new_next, DS.new_wr, DS.new_vis, Option.map_some, Option.isSome_some, DS.set_upd, W_slV, W_app, W_bslice, Option.map_none, repeatZ, Nat.reduceMul, W_atL, atL_ap, W_ldA, ldA, unmask_mask, hidden_nil, List.length_append, setParams_nil, setParams_cons, Nat.add_zero, asIdx_cast, Nat.mul_one, Nat.zero_mul, decide_true, decide_false, List.toList_toArray, eq_self, Int.reduceEq, Int.reduceLT, Int.reduceLE, Option.isNone_none, Option.isNone_some, foot, mask_next, unmask_next, mask_get, hidden, noteAt, Bool.or_false, Bool.false_and, DS.read, Cells.take, gq4, wq4]
      have X5 : ∀ o, Ext [q] s (s4.upd q o) := fun o => XU.trans' (Ext.upd (F := [q]) (k := q) (.inl (by simp)))
      have hn4 : ∀ j, j ∈ blk (.slice a4 ((rows (L.eraseIdx (L.length - 1))).length + 1) ((rows (L.eraseIdx (L.length - 1))).length + 1)) → s.next ≤ j := fun j hj => by
        rcases b4 j (by rwa [blk_len] at hj) with h | h
        · simp at h; omega
        · rw [DS.new_next, hNS] at h; omega
      have hqn4 : q ∉ blk (.slice a4 ((rows (L.eraseIdx (L.length - 1))).length + 1) ((rows (L.eraseIdx (L.length - 1))).length + 1)) := fun hk => by have := hn4 q hk; omega
      have hlen : (rows (L.eraseIdx (L.length - 1))).length + 1 = ([row (k, y)] ++ rows (L.eraseIdx (L.length - 1))).length := by simp
      have hR : RefAt (s4.upd q (.cells (.list [.slice a4 ((rows (L.eraseIdx (L.length - 1))).length + 1) ((rows (L.eraseIdx (L.length - 1))).length + 1), .int .i64 room, .int .i64 h, .int .i64 ms]) false)) q (.slice a4 ((rows (L.eraseIdx (L.length - 1))).length + 1) ((rows (L.eraseIdx (L.length - 1))).length + 1)) ((k, y) :: (L.eraseIdx (L.length - 1))) room h ms := by
        refine ⟨?_, ?_, ?_, hqn4⟩
        · simp only [DS.upd_get_self, gq4, Option.map_some]
        · simp only [DS.upd_wr, wq4]
        · rw [show rows ((k, y) :: (L.eraseIdx (L.length - 1))) = [row (k, y)] ++ rows (L.eraseIdx (L.length - 1)) from rfl]
          have := x4.keep (Ext.upd (F := [q]) (k := q) (o := .cells (.list [.slice a4 ((rows (L.eraseIdx (L.length - 1))).length + 1) ((rows (L.eraseIdx (L.length - 1))).length + 1), .int .i64 room, .int .i64 h, .int .i64 ms]) false) (.inl (by simp))) (fun j hj => by simp; intro e; subst e; exact hqn4 (by rwa [blk_len] at hj))
          rw [hlen]
          rw [hlen] at this
          exact this
      exact hQ _ ⟨_, X5 _, hn4, .inr (.inr ⟨hi, hfull, rfl, hR⟩)⟩
    · have n3 : ∀ o, (s.new o).get q = some (.cells (.list [v, .int .i64 room, .int .i64 h, .int .i64 ms]) false) := fun o => (DS.new_get_lt hql).trans gq
      subst hv
      simp (maxSteps := 4000000) only [WC_seq, WC_region, WC_cond, WC_block, WC_skip, WC_ret, WC_exit, contS_normal, contS_ret, contS_exit, contB_normal, contB_ret, contB_exit, contB_other, contR_ap, contL_ret, contL_exit, contL_normal, WO_nil, WO_pp, WO_pn, WO_g, WO_hn, WO_hp, gateO_tt, gateO_tf, gateO_ft, gateO_ff, condC_true, condC_false, contO_ap, contN_ap, contH_ap, contHN_ap, atS_ap, atD_ap, atG_ap, atB_ap, atL_ap, W_some, W_mv, W_pick, W_bin, W_eq1, W_un, W_cvInt, W_nilck, W_build, W_mkf, W_fadr, W_fld, W_ixL, W_ext, W_blenL, W_ld, W_look, W_blenM, W_st, W_alloc, W_box, W_mkmap, W_mupd, W_bdel, W_call, dpure, dbin, dint, dread, dwrite, eqOne, Ends_ret, Ends_normal, ev_tmp, ev_const, ev_func, putT_some, putT_none, get_put_eq, get_put_ne, Nat.reduceEqDiff, not_false_eq_true, ofList_get, List.getElem?_cons_zero, List.getElem?_cons_succ, Option.getD_some, dresults, tupled, List.map_cons, List.map_nil, ldV_at, Cells.get, getN, Nat.zero_add, Nat.reduceAdd, st_wr, cells_int, cells_bool, cells_str, cells_ptr, cells_slice, cells_map, cells_func, cells_agg, List.length_cons, List.length_nil, allOne, oneCellD, Bool.and_self, Bool.and_true, Bool.true_and, Bool.and_eq_true, Nat.beq_eq, Nat.ble_eq, Nat.blt_eq, Nat.reduceLeDiff, Nat.le_refl, and_self, and_true, true_and, if_true, if_false, ite_true, ite_false, reduceCtorEq, Bool.not_true, Bool.not_false, Bool.false_eq_true, DS.wrC, Cells.size, Cells.fillFrom, Cells.set, setN, fillParts, List.take_zero, List.take_succ_cons, List.drop_succ_cons, List.drop_zero, List.nil_append, List.cons_append, List.take_nil, List.drop_nil, List.append_nil, pp, pv, pw, pg, DS.upd_get_self, DS.upd_get_ne, DS.upd_next, DS.upd_wr, DS.upd_vis, DS.new_next, DS.new_wr, DS.new_vis, Option.map_some, Option.isSome_some, DS.set_upd, W_slV, W_app, W_bslice, Option.map_none, repeatZ, Nat.reduceMul, W_atL, atL_ap, W_ldA, ldA, unmask_mask, hidden_nil, List.length_append, setParams_nil, setParams_cons, Nat.add_zero, asIdx_cast, Nat.mul_one, Nat.zero_mul, decide_true, decide_false, List.toList_toArray, eq_self, Int.reduceEq, Int.reduceLT, Int.reduceLE, Option.isNone_none, Option.isNone_some, foot, mask_next, unmask_next, mask_get, hidden, noteAt, Bool.or_false, Bool.false_and, DS.read, Cells.take, d12, hfind, posI, e0, gq, hfull, n3]
      have hle : s.next ≤ s.next := (Nat.le_refl _)
      have hNS : s.next = s.next := rfl
      refine W.mono (appV_ok (lx := [row (k, y)]) (ly := rows L) (.inr ⟨s.next, none, rfl, .inl rfl, (DS.new_get_self hG), ((hG _ (Nat.le_refl _)).2)⟩) ((c).sl.view (rows_ok _) |>.of fun j hj => DS.new_get_lt ((c).sl.lt j hj)) (rows_ok [(k, y)]) (rows_ok _) (DS.new_good (((Ext.refl (F := [q]) (s := s))).good hG)) ?_ ?_) ?_
      · simp [rows, List.length_eraseIdx] <;> (first | omega | (split <;> omega))
      · simp [rows, List.length_eraseIdx] <;> (first | omega | (split <;> omega))
      rintro ⟨v4, s4⟩ ⟨x4, X4, b4⟩
      simp only [blk] at x4 X4 b4
      have XU : Ext [q] s s4 := (((Ext.refl (F := [q]) (s := s))).trans' Ext.new).trans X4 (by simp only [List.mem_singleton]; intro j hj; right; subst hj; exact hle)
      have hqS : q < s.next := DS.get_lt' (c).gq
      rw [hNS] at hqS
      have gq4 := X4.keep ((Ext.new (F := [])).keep (c).gq (by simp)) (by simp; omega)
      have wq4 := XU.wrs wq
      obtain ⟨a4, rfl⟩ := x4.shape
      simp (maxSteps := 4000000) only [WC_seq, WC_region, WC_cond, WC_block, WC_skip, WC_ret, WC_exit, contS_normal, contS_ret, contS_exit, contB_normal, contB_ret, contB_exit, contB_other, contR_ap, contL_ret, contL_exit, contL_normal, WO_nil, WO_pp, WO_pn, WO_g, WO_hn, WO_hp, gateO_tt, gateO_tf, gateO_ft, gateO_ff, condC_true, condC_false, contO_ap, contN_ap, contH_ap, contHN_ap, atS_ap, atD_ap, atG_ap, atB_ap, atL_ap, W_some, W_mv, W_pick, W_bin, W_eq1, W_un, W_cvInt, W_nilck, W_build, W_mkf, W_fadr, W_fld, W_ixL, W_ext, W_blenL, W_ld, W_look, W_blenM, W_st, W_alloc, W_box, W_mkmap, W_mupd, W_bdel, W_call, dpure, dbin, dint, dread, dwrite, eqOne, Ends_ret, Ends_normal, ev_tmp, ev_const, ev_func, putT_some, putT_none, get_put_eq, get_put_ne, Nat.reduceEqDiff, not_false_eq_true, ofList_get, List.getElem?_cons_zero, List.getElem?_cons_succ, Option.getD_some, dresults, tupled, List.map_cons, List.map_nil, ldV_at, Cells.get, getN, Nat.zero_add, Nat.reduceAdd, st_wr, cells_int, cells_bool, cells_str, cells_ptr, cells_slice, cells_map, cells_func, cells_agg, List.length_cons, List.length_nil, allOne, oneCellD, Bool.and_self, Bool.and_true, Bool.true_and, Bool.and_eq_true, Nat.beq_eq, Nat.ble_eq, Nat.blt_eq, Nat.reduceLeDiff, Nat.le_refl, and_self, and_true, true_and, if_true, if_false, ite_true, ite_false, reduceCtorEq, Bool.not_true, Bool.not_false, Bool.false_eq_true, DS.wrC, Cells.size, Cells.fillFrom, Cells.set, setN, fillParts, List.take_zero, List.take_succ_cons, List.drop_succ_cons, List.drop_zero, List.nil_append, List.cons_append, List.take_nil, List.drop_nil, List.append_nil, pp, pv, pw, pg, DS.upd_get_self, DS.upd_get_ne, DS.upd_next, DS.upd_wr, DS.upd_vis, DS.new_next, DS.new_wr, DS.new_vis, Option.map_some, Option.isSome_some, DS.set_upd, W_slV, W_app, W_bslice, Option.map_none, repeatZ, Nat.reduceMul, W_atL, atL_ap, W_ldA, ldA, unmask_mask, hidden_nil, List.length_append, setParams_nil, setParams_cons, Nat.add_zero, asIdx_cast, Nat.mul_one, Nat.zero_mul, decide_true, decide_false, List.toList_toArray, eq_self, Int.reduceEq, Int.reduceLT, Int.reduceLE, Option.isNone_none, Option.isNone_some, foot, mask_next, unmask_next, mask_get, hidden, noteAt, Bool.or_false, Bool.false_and, DS.read, Cells.take, gq4, wq4]
      have X5 : ∀ o, Ext [q] s (s4.upd q o) := fun o => XU.trans' (Ext.upd (F := [q]) (k := q) (.inl (by simp)))
      have hn4 : ∀ j, j ∈ blk (.slice a4 ((rows L).length + 1) ((rows L).length + 1)) → s.next ≤ j := fun j hj => by
        rcases b4 j (by rwa [blk_len] at hj) with h | h
        · simp at h; omega
        · rw [DS.new_next, hNS] at h; omega
      have hqn4 : q ∉ blk (.slice a4 ((rows L).length + 1) ((rows L).length + 1)) := fun hk => by have := hn4 q hk; omega
      have hlen : (rows L).length + 1 = ([row (k, y)] ++ rows L).length := by simp
      have hR : RefAt (s4.upd q (.cells (.list [.slice a4 ((rows L).length + 1) ((rows L).length + 1), .int .i64 room, .int .i64 h, .int .i64 ms]) false)) q (.slice a4 ((rows L).length + 1) ((rows L).length + 1)) ((k, y) :: L) room h ms := by
        refine ⟨?_, ?_, ?_, hqn4⟩
        · simp only [DS.upd_get_self, gq4, Option.map_some]
        · simp only [DS.upd_wr, wq4]
        · rw [show rows ((k, y) :: L) = [row (k, y)] ++ rows L from rfl]
          have := x4.keep (Ext.upd (F := [q]) (k := q) (o := .cells (.list [.slice a4 ((rows L).length + 1) ((rows L).length + 1), .int .i64 room, .int .i64 h, .int .i64 ms]) false) (.inl (by simp))) (fun j hj => by simp; intro e; subst e; exact hqn4 (by rwa [blk_len] at hj))
          rw [hlen]
          rw [hlen] at this
          exact this
      exact hQ _ ⟨_, X5 _, hn4, .inr (.inl ⟨hi, by omega, rfl, hR⟩)⟩
end
end Go.Dx.CaS
