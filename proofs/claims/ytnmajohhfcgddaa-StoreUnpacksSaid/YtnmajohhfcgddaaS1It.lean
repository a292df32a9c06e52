/- How the store is gone over: All, from, Next (made by tools/gen.py out of storeit.t). -/
import Derived.Test.YtnmajohhfcgddaaS1Fn
set_option linter.unusedVariables false
set_option linter.unusedSimpArgs false
set_option linter.unusedSectionVars false
set_option maxRecDepth 100000
set_option maxHeartbeats 4000000
namespace Go.Dx.StA
open Go Go.Dx Go.Dx.Search Go.Dx.St Go.Proofs.Ytnmajohhfcgddaa

structure Its (E : Env) : Prop where
  fAll : E.fn 12 = some d12
  iAll : E.intr 12 = none
  fAll1 : E.fn 35 = some d35
  iAll1 : E.intr 35 = none
  ffrom : E.fn 36 = some d36
  ifrom : E.intr 36 = none
  ffrom1 : E.fn 54 = some d54
  ifrom1 : E.intr 54 = none
  fNext : E.fn 13 = some d13
  iNext : E.intr 13 = none
structure IterI (J : Nat → DS → Prop) (n y1 c : Nat) (kv : Value) (i : Nat) (x : St) : Prop where
  ex : ∃ j : Nat, i = n - j ∧ j ≤ n ∧ x.defers = [] ∧ (x.t.get 0 = some (.func (.yield y1) #[] #[]) ∧ x.t.get 1 = some (.pointer (some ⟨c, 0, none⟩)) ∧ x.t.get 11 = some kv ∧ x.t.get 12 = some (.int .i64 (n : Int)) ∧ x.t.get 13 = some (.int .i64 (j : Int))) ∧ J j x.s
structure FromI (J : Nat → DS → Prop) (n y1 c : Nat) (i : Nat) (x : St) : Prop where
  ex : ∃ j : Nat, i = n - j ∧ j ≤ n ∧ x.defers = [] ∧ (x.t.get 0 = some (.func (.yield y1) #[] #[]) ∧ x.t.get 1 = some (.pointer (some ⟨c, 0, none⟩)) ∧ x.t.get 4 = some (.int .i64 (j : Int))) ∧ J j x.s
section
variable {E : Env} (hE : Fns E) (hI : Its E) {s : DS} {p : Nat} {kv vv : Value} {L : List Ent} {room : Int} {d : Nat} {J : Nat → DS → Prop} {Stop : DS → Prop} {c y1 : Nat}
include hI
theorem all_iter (hJ : ∀ i S, J i S → StAt S p kv vv L room ∧ S.get c = some (.cells (.list [.pointer (some ⟨p, 0, none⟩)]) false))
    (hstep : ∀ (i : Nat) (x : Ent) (S : DS), L[i]? = some x → J i S → W (dcall E d (.func (.yield y1) #[] #[]) [.int .i64 x.1, .int .i64 x.2] S) fun r => (r.1 = .bool true ∧ J (i + 1) r.2) ∨ (r.1 = .bool false ∧ Stop r.2))
    (h0 : J 0 s) (hlf : L.length < E.lf) :
    W (dcall E (d + 1) (.func (.func 35) #[] #[.pointer (some ⟨c, 0, none⟩)]) [.func (.yield y1) #[] #[]] s) fun r => J L.length r.2 ∨ Stop r.2 := by
  obtain ⟨c0, gc⟩ := hJ 0 s h0
  have gp := c0.gp
  obtain ⟨ak, ck, hkv⟩ := c0.ks.shape
  have hkl : (keysV L).length = L.length := by unfold keysV; rw [ints_len, List.length_map]
  rw [hkl] at hkv
  refine W_cps fun Q hQ => ?_
  rw [W_enter hI.iAll1 hI.fAll1 rfl]
  have h0' := h0
  subst hkv
  simp (maxSteps := 4000000) only [WC_seq, WC_region, WC_cond, WC_block, WC_skip, contS_normal, contR_ap, WO_nil, WO_pp, condC_false, contO_ap, atS_ap, atB_ap, W_some, W_mv, W_eq1, W_nilck, W_fadr, W_blenL, W_ld, dpure, eqOne, ev_tmp, ev_const, putT_some, get_put_eq, get_put_ne, Nat.reduceEqDiff, not_false_eq_true, ofList_get, List.getElem?_cons_zero, List.getElem?_cons_succ, Option.getD_some, ldV_at, Cells.get, getN, if_false, Bool.not_false, Bool.false_eq_true, List.nil_append, List.cons_append, pp, pv, Nat.add_zero, d35, gc, gp]
  refine WC_loop (IterI J L.length y1 c (.slice ak L.length ck)) L.length hlf ⟨0, rfl, Nat.zero_le _, rfl, ?_, h0'⟩ ?_
  · simp (maxSteps := 4000000) only [get_put_eq, get_put_ne, Nat.reduceEqDiff, not_false_eq_true, ofList_get, List.getElem?_cons_zero, List.getElem?_cons_succ, Bool.true_and, true_and, reduceCtorEq]
    rfl
  rintro n ⟨t, S, ds⟩ hn ⟨i, rfl, hi, hds, ⟨g0, g1, g11, g12, g13⟩, hj⟩
  simp only at hds g0 g1 g11 g12 g13 hj
  subst hds
  by_cases c1 : i < L.length
  · have hx : L[i]? = some L[i] := List.getElem?_eq_getElem c1
    generalize L[i] = x at hx
    obtain ⟨cS, gcS⟩ := hJ i S hj
    have gpS := cS.gp
    have hk : (L.map (·.1))[i]? = some x.1 := by simp [hx]
    have hv : (L.map (·.2))[i]? = some x.2 := by simp [hx]
    obtain ⟨b, sp, cc, ext, hkv2, hr, hg⟩ := cS.ks.getI hk
    obtain ⟨b2, sp2, cc2, ext2, hvv2, hr2, hg2⟩ := cS.vs.getI hv
    rw [List.length_map] at hkv2 hvv2
    cases hkv2
    have hgb := hr.get
    have hgb2 := hr2.get
    subst hvv2
    have e1 : (i : Int) < (L.length : Int) := by omega
    have hlen := cS.len
    have w1 : dwrap .i64 ((i : Int) + 1) = ((i + 1 : Nat) : Int) := by rw [dwrap_in (by omega) (by omega)]; omega
    simp (maxSteps := 4000000) only [WC_seq, WC_region, WC_cond, WC_block, WC_skip, contS_normal, contR_ap, WO_nil, WO_pp, condC_true, contO_ap, atS_ap, W_some, W_mv, W_bin, W_nilck, W_fadr, W_ixL, W_ld, W_call, dpure, dbin, dint, ev_tmp, putT_some, get_put_eq, get_put_ne, Nat.reduceEqDiff, not_false_eq_true, Option.getD_some, List.map_cons, List.map_nil, ldV_at, Cells.get, getN, Nat.zero_add, Nat.blt_eq, if_true, reduceCtorEq, Nat.add_zero, asIdx_cast, Nat.mul_one, decide_true, g0, g1, g11, g12, g13, e1, c1, hgb, hg, hgb2, hg2, gcS, gpS]
    refine W.mono (hstep i x S hx hj) ?_
    rintro ⟨v, S2⟩ (⟨hv, hj2⟩ | ⟨hv, hst⟩)
    · simp only at hv hj2
      subst hv
      simp (maxSteps := 4000000) only [WC_region, WC_cond, WC_skip, contS_normal, contB_normal, contR_ap, contL_normal, WO_nil, WO_pp, condC_false, contO_ap, atS_ap, W_some, W_mv, W_bin, W_un, dpure, dbin, dint, ev_tmp, ev_const, putT_some, get_put_eq, get_put_ne, Nat.reduceEqDiff, not_false_eq_true, Option.getD_some, if_true, Bool.not_true, g0, g1, g11, g12, g13, w1]
      exact ⟨L.length - (i + 1), by omega, ⟨i + 1, rfl, by omega, rfl, by simp (maxSteps := 4000000) only [get_put_eq, get_put_ne, Nat.reduceEqDiff, not_false_eq_true, Bool.and_self, and_self, reduceCtorEq, g0, g1, g11, g12, g13], hj2⟩⟩
    · simp only at hv hst
      subst hv
      simp (maxSteps := 4000000) only [WC_cond, WC_ret, contS_normal, contS_ret, contB_ret, contR_ap, contL_ret, WO_nil, WO_pp, condC_true, contO_ap, atS_ap, W_some, W_un, dpure, Ends_ret, ev_tmp, putT_some, get_put_eq, Option.getD_some, dresults, tupled, Bool.not_false, g0, g1, g11, g12, g13]
      exact hQ _ (.inr hst)
  · obtain rfl : i = L.length := by omega
    have e1 : ¬ (L.length : Int) < (L.length : Int) := by omega
    simp (maxSteps := 4000000) only [WC_seq, WC_region, WC_cond, WC_exit, contS_normal, contS_exit, contB_exit, contR_ap, contL_exit, WO_nil, WO_pp, condC_false, contO_ap, atS_ap, W_some, W_bin, dbin, dint, Ends_normal, ev_tmp, putT_some, get_put_eq, Option.getD_some, dresults, tupled, if_true, decide_false, g0, g1, g11, g12, g13, e1]
    exact hQ _ (.inl hj)
include hE
theorem from_iter {c2 : Nat} {k : Int} (hJ : ∀ i S, J i S → StAt S p kv vv L room ∧ S.get c = some (.cells (.list [.pointer (some ⟨p, 0, none⟩)]) false))
    (gk : s.get c2 = some (.cells (.list [.int .i64 k]) false))
    (hstep : ∀ (i : Nat) (x : Ent) (S : DS), L[i]? = some x → J i S → W (dcall E (d + 4) (.func (.yield y1) #[] #[]) [.int .i64 x.1, .int .i64 x.2] S) fun r => (r.1 = .bool true ∧ J (i + 1) r.2) ∨ (r.1 = .bool false ∧ Stop r.2))
    (h0 : J (pos k L) s) (hlf : L.length < E.lf) :
    W (dcall E (d + 5) (.func (.func 54) #[] #[.pointer (some ⟨c, 0, none⟩), .pointer (some ⟨c2, 0, none⟩)]) [.func (.yield y1) #[] #[]] s) fun r => J L.length r.2 ∨ Stop r.2 := by
  obtain ⟨c0, gc⟩ := hJ _ s h0
  have gp := c0.gp
  refine W_cps fun Q hQ => ?_
  rw [W_enter hI.ifrom1 hI.ffrom1 rfl]
  have h0' := h0
  have hple := pos_le k L
  simp (maxSteps := 4000000) only [WC_seq, WC_region, WC_block, contS_normal, contR_ap, WO_nil, WO_pp, contO_ap, atS_ap, W_some, W_mv, W_ext, W_ld, W_call, dpure, ev_tmp, ev_func, putT_some, get_put_eq, get_put_ne, Nat.reduceEqDiff, not_false_eq_true, ofList_get, List.getElem?_cons_zero, List.getElem?_cons_succ, Option.getD_some, List.map_cons, List.map_nil, ldV_at, Cells.get, getN, List.nil_append, List.cons_append, pp, pv, d54, gc, gk, find_ok hE c0]
  refine WC_loop (FromI J L.length y1 c) (L.length - pos k L) (by omega) ⟨pos k L, rfl, hple, rfl, ?_, h0'⟩ ?_
  · simp (maxSteps := 4000000) only [get_put_eq, get_put_ne, Nat.reduceEqDiff, not_false_eq_true, ofList_get, List.getElem?_cons_zero, List.getElem?_cons_succ, Bool.and_self, and_self, reduceCtorEq]
  rintro n ⟨t, S, ds⟩ hn ⟨i, rfl, hi, hds, ⟨g0, g1, g4⟩, hj⟩
  simp only at hds g0 g1 g4 hj
  subst hds
  obtain ⟨cS, gcS⟩ := hJ i S hj
  have gpS := cS.gp
  by_cases c1 : i < L.length
  · have hx : L[i]? = some L[i] := List.getElem?_eq_getElem c1
    generalize L[i] = x at hx
    have hk : (L.map (·.1))[i]? = some x.1 := by simp [hx]
    have hv : (L.map (·.2))[i]? = some x.2 := by simp [hx]
    obtain ⟨b, sp, cc, ext, hkv2, hr, hg⟩ := cS.ks.getI hk
    obtain ⟨b2, sp2, cc2, ext2, hvv2, hr2, hg2⟩ := cS.vs.getI hv
    rw [List.length_map] at hkv2 hvv2
    have hgb := hr.get
    have hgb2 := hr2.get
    rw [hkv2, hvv2] at gpS
    have e1 : (i : Int) < (L.length : Int) := by omega
    have hlen := cS.len
    have w1 : dwrap .i64 ((i : Int) + 1) = ((i + 1 : Nat) : Int) := by rw [dwrap_in (by omega) (by omega)]; omega
    simp (maxSteps := 4000000) only [WC_seq, WC_region, WC_cond, WC_block, WC_skip, contS_normal, contR_ap, WO_nil, WO_pp, condC_true, contO_ap, atS_ap, W_some, W_mv, W_bin, W_nilck, W_fadr, W_ixL, W_blenL, W_ld, W_call, dpure, dbin, dint, ev_tmp, putT_some, get_put_eq, get_put_ne, Nat.reduceEqDiff, not_false_eq_true, Option.getD_some, List.map_cons, List.map_nil, ldV_at, Cells.get, getN, Nat.zero_add, Nat.blt_eq, if_true, reduceCtorEq, Nat.add_zero, asIdx_cast, Nat.mul_one, decide_true, g0, g1, g4, e1, c1, hgb, hg, hgb2, hg2, gcS, gpS]
    refine W.mono (hstep i x S hx hj) ?_
    rintro ⟨v, S2⟩ (⟨hv, hj2⟩ | ⟨hv, hst⟩)
    · simp only at hv hj2
      subst hv
      simp (maxSteps := 4000000) only [WC_region, WC_cond, WC_skip, contS_normal, contB_normal, contR_ap, contL_normal, WO_nil, WO_pp, condC_false, contO_ap, atS_ap, W_some, W_mv, W_bin, W_un, dpure, dbin, dint, ev_tmp, ev_const, putT_some, get_put_eq, get_put_ne, Nat.reduceEqDiff, not_false_eq_true, Option.getD_some, if_true, Bool.not_true, g0, g1, g4, w1]
      exact ⟨L.length - (i + 1), by omega, ⟨i + 1, rfl, by omega, rfl, by simp (maxSteps := 4000000) only [get_put_eq, get_put_ne, Nat.reduceEqDiff, not_false_eq_true, Bool.and_self, and_self, reduceCtorEq, g0, g1, g4], hj2⟩⟩
    · simp only at hv hst
      subst hv
      simp (maxSteps := 4000000) only [WC_cond, WC_ret, contS_normal, contS_ret, contB_ret, contR_ap, contL_ret, WO_nil, WO_pp, condC_true, contO_ap, atS_ap, W_some, W_un, dpure, Ends_ret, ev_tmp, putT_some, get_put_eq, Option.getD_some, dresults, tupled, Bool.not_false, g0, g1, g4]
      exact hQ _ (.inr hst)
  · obtain rfl : i = L.length := by omega
    have e1 : ¬ (L.length : Int) < (L.length : Int) := by omega
    obtain ⟨ak, ck, hkv⟩ := cS.ks.shape
    have hkl : (keysV L).length = L.length := by unfold keysV; rw [ints_len, List.length_map]
    rw [hkl] at hkv
    rw [hkv] at gpS
    simp (maxSteps := 4000000) only [WC_seq, WC_region, WC_cond, WC_exit, contS_normal, contS_exit, contB_exit, contR_ap, contL_exit, WO_nil, WO_pp, condC_false, contO_ap, atS_ap, W_some, W_mv, W_bin, W_nilck, W_fadr, W_blenL, W_ld, dpure, dbin, dint, Ends_normal, ev_tmp, putT_some, get_put_eq, get_put_ne, Nat.reduceEqDiff, not_false_eq_true, Option.getD_some, dresults, tupled, ldV_at, Cells.get, getN, if_true, Nat.add_zero, decide_false, g0, g1, g4, gcS, gpS, e1]
    exact hQ _ (.inl hj)
omit hE
theorem All_ok (dd : Nat) (s0 : DS) (a : Option Addr) : dcall E (dd + 1) (.func (.func 12) #[] #[]) [.pointer a] s0 = some (.func (.func 35) #[] #[.pointer (some ⟨s0.next, 0, none⟩)], s0.new (.cells (.list [.pointer a]) false)) := by
  rw [← W_iff, W_enter0 hI.iAll hI.fAll rfl]
  simp (maxSteps := 4000000) only [WC_seq, WC_region, WC_ret, contS_normal, contR_ap, WO_nil, WO_pp, contO_ap, W_some, W_mv, W_mkf, W_box, Ends_ret, ev_tmp, ev_const, putT_some, get_put_eq, get_put_ne, Nat.reduceEqDiff, not_false_eq_true, ofList_get, List.getElem?_cons_zero, Option.getD_some, dresults, tupled, List.map_cons, List.map_nil, cells_ptr, pp, pv, d12]
theorem from_ok (dd : Nat) (s0 : DS) (a : Option Addr) (b : Int) : dcall E (dd + 1) (.func (.func 36) #[] #[]) [.pointer a, .int .i64 b] s0 = some (.func (.func 54) #[] #[.pointer (some ⟨s0.next, 0, none⟩), .pointer (some ⟨s0.next + 1, 0, none⟩)], (s0.new (.cells (.list [.pointer a]) false)).new (.cells (.list [.int .i64 b]) false)) := by
  rw [← W_iff, W_enter0 hI.ifrom hI.ffrom rfl]
  simp (maxSteps := 4000000) only [WC_seq, WC_region, WC_ret, contS_normal, contR_ap, WO_nil, WO_pp, contO_ap, W_some, W_mv, W_mkf, W_box, Ends_ret, ev_tmp, ev_const, putT_some, get_put_eq, get_put_ne, Nat.reduceEqDiff, not_false_eq_true, ofList_get, List.getElem?_cons_zero, List.getElem?_cons_succ, Option.getD_some, dresults, tupled, List.map_cons, List.map_nil, cells_int, cells_ptr, pp, pv, nextN, d36]
def asgN : DCode := (.seq (.region [pv 7 16]) (.region [pv 8 17]))
def bodyN : DCode := (.block 1 (.seq (.region [pv 18 7, pv 19 8, ⟨none, .st 1 (tm 4) (tm 18), none, [], false⟩, ⟨none, .st 1 (tm 5) (tm 19), none, [], false⟩, ⟨none, .st 1 (tm 6) (.const (.bool true)), none, [], false⟩]) (.ret)))
def nextA (k : Int) (L : List Ent) : List Value := match L[pos k L]? with
  | some x => [.int .i64 x.1, .int .i64 x.2, .bool true]
  | none => [.int .i64 0, .int .i64 0, .bool false]
include hE
theorem Next_ok (c : StAt s p kv vv L room) (hG : s.Good) (k : Int) :
    W (dcall E (d + 7) (.func (.func 13) #[] #[]) [.pointer (some ⟨p, 0, none⟩), .int .i64 k] s) fun r => r.1 = .tuple ⟨nextA k L⟩ ∧ Ext [] s r.2 := by
  have hlf := hE.lf
  have hlen := c.len
  have hlt := c.lt
  have hpl := hlt p (List.mem_cons_self ..)
  refine W_cps fun Q hQ => ?_
  rw [W_enter0 hI.iNext hI.fNext rfl]
  simp (maxSteps := 4000000) (maxDischargeDepth := 8) only [WC_seq, WC_region, WC_cond, WC_block, contS_normal, contR_ap, WO_nil, WO_pp, condC_true, contO_ap, atS_ap, atB_ap, W_some, W_mv, W_eq1, W_nilck, W_fadr, W_alloc, W_call, dpure, eqOne, ev_tmp, ev_const, ev_func, putT_some, get_put_eq, get_put_ne, not_false_eq_true, ofList_get, List.getElem?_cons_zero, List.getElem?_cons_succ, Option.getD_some, List.map_cons, List.map_nil, Nat.reduceAdd, if_true, Bool.not_false, pp, pv, nextN, Nat.add_zero, eq_lt, Nat.add_assoc, Nat.reduceLT, Nat.lt_add_one, Nat.succ_pos, d13, from_ok hI, hG]
  refine WC_rf (by simp (maxSteps := 4000000) only [ev_tmp, get_put_eq, Option.getD_some]; rfl) ?_
  simp (maxSteps := 4000000) (maxDischargeDepth := 8) only [Nat.reduceAdd, nextN, Nat.add_assoc]
  obtain ⟨T, hT⟩ : ∃ T : DS, T = ((((s.new (.cells (.list [.int .i64 0]) false)).new (.cells (.list [.int .i64 0]) false)).new (.cells (.list [.bool false]) false)).new (.cells (.list [.pointer (some ⟨p, 0, none⟩)]) false)).new (.cells (.list [.int .i64 k]) false) := ⟨_, rfl⟩
  rw [← hT]
  have XT : Ext [] s T := by rw [hT]; exact Ext.new.trans' (Ext.new.trans' (Ext.new.trans' (Ext.new.trans' Ext.new)))
  have nT : T.next = s.next + 5 := by rw [hT]; simp (maxSteps := 4000000) (maxDischargeDepth := 8) only [Nat.reduceAdd, nextN, Nat.add_assoc]
  have hGT := XT.good hG
  have T0 : T.get s.next = some (.cells (.list [.int .i64 0]) false) := by rw [hT]; simp (maxSteps := 4000000) (maxDischargeDepth := 8) only [Nat.reduceAdd, nextN, get_new_at, get_new_ne, good_new, lt_add_s, Nat.add_assoc, Nat.lt_add_one, Nat.succ_pos, hG]
  have T1 : T.get (s.next + 1) = some (.cells (.list [.int .i64 0]) false) := by rw [hT]; simp (maxSteps := 4000000) (maxDischargeDepth := 8) only [Nat.reduceAdd, nextN, get_new_at, get_new_ne, good_new, Nat.add_assoc, Nat.reduceLT, Nat.lt_add_one, Nat.add_lt_add_iff_left, hG]
  have T2 : T.get (s.next + 2) = some (.cells (.list [.bool false]) false) := by rw [hT]; simp (maxSteps := 4000000) (maxDischargeDepth := 8) only [Nat.reduceAdd, nextN, get_new_at, get_new_ne, good_new, Nat.add_assoc, Nat.reduceLT, Nat.lt_add_one, Nat.add_lt_add_iff_left, hG]
  have T3 : T.get (s.next + 3) = some (.cells (.list [.pointer (some ⟨p, 0, none⟩)]) false) := by rw [hT]; simp (maxSteps := 4000000) (maxDischargeDepth := 8) only [Nat.reduceAdd, nextN, get_new_at, get_new_ne, good_new, Nat.add_assoc, Nat.lt_add_one, hG]
  have T4 : T.get (s.next + 4) = some (.cells (.list [.int .i64 k]) false) := by rw [hT]; simp (maxSteps := 4000000) (maxDischargeDepth := 8) only [Nat.reduceAdd, nextN, get_new_at, good_new, Nat.add_assoc, hG]
  generalize hO : loopOb _ _ _ _ = O
  obtain ⟨tt, hO2, t4, t5, t6⟩ : ∃ tt, O = loopOb tt [16, 17] asgN bodyN ∧ tt.get 4 = some (.pointer (some ⟨s.next, 0, none⟩)) ∧ tt.get 5 = some (.pointer (some ⟨s.next + 1, 0, none⟩)) ∧ tt.get 6 = some (.pointer (some ⟨s.next + 2, 0, none⟩)) := ⟨_, hO.symm, by simp (maxSteps := 4000000) only [get_put_eq, get_put_ne, Nat.reduceEqDiff, not_false_eq_true], by simp (maxSteps := 4000000) only [get_put_eq, get_put_ne, Nat.reduceEqDiff, not_false_eq_true], by simp (maxSteps := 4000000) only [get_put_eq, get_put_ne, Nat.reduceEqDiff, not_false_eq_true]⟩
  obtain ⟨U, hU⟩ : ∃ U : DS, U = (T.new .dfr).new O := ⟨_, rfl⟩
  rw [← hU]
  have XU : Ext [] T U := by rw [hU]; exact Ext.new.trans' Ext.new
  have U6 : U.get (s.next + 6) = some O := by rw [hU]; simp (maxSteps := 4000000) (maxDischargeDepth := 8) only [Nat.reduceAdd, nextN, get_new_at, good_new, Nat.add_assoc, hGT, nT]
  have U5 : U.get (s.next + 5) = some .dfr := by rw [hU]; simp (maxSteps := 4000000) (maxDischargeDepth := 8) only [Nat.reduceAdd, nextN, get_new_at, get_new_ne, good_new, Nat.add_assoc, Nat.lt_add_one, hGT, nT]
  have XsU : Ext [] s U := XT.trans' XU
  have hGU := XsU.good hG
  have wU : ∀ k, U.wr (s.next + k) = true := fun k => XsU.wrs (hG _ (Nat.le_add_right _ _)).2
  have wU0 := wU 0
  rw [Nat.add_zero] at wU0
  have U0 := XU.keep T0 (by simp)
  have U1 := XU.keep T1 (by simp)
  have U2 := XU.keep T2 (by simp)
  refine W.mono (from_iter (J := fun i S => i = pos k L ∧ S = U) (Stop := fun S => Ext [s.next, s.next + 1, s.next + 2, s.next + 6] U S ∧ ∃ x tt', L[pos k L]? = some x ∧ S.get s.next = some (.cells (.list [.int .i64 x.1]) false) ∧ S.get (s.next + 1) = some (.cells (.list [.int .i64 x.2]) false) ∧ S.get (s.next + 2) = some (.cells (.list [.bool true]) false) ∧ S.get (s.next + 6) = some (.loop .done .ret tt' [16, 17] asgN bodyN))
    hE hI (c2 := s.next + 4) (k := k) (fun i S h => by obtain ⟨_, rfl⟩ := h; exact ⟨c.keep XsU (by simp), XU.keep T3 (by simp)⟩) (XU.keep T4 (by simp)) ?_ ⟨rfl, rfl⟩ (by omega)) ?_
  · rintro i x S hx ⟨rfl, rfl⟩
    have U6' : S.get (s.next + 6) = some (.loop .ready .normal tt [16, 17] asgN bodyN) := by rw [U6, hO2]; rfl
    refine W_yield U6' rfl ?_
    simp (maxSteps := 4000000) only [WC_seq, WC_region, contS_normal, contR_ap, WO_nil, WO_pp, contO_ap, W_mv, ev_tmp, putT_some, get_put_eq, get_put_ne, Nat.reduceEqDiff, not_false_eq_true, Option.getD_some, pv, setParams_nil, setParams_cons, asgN]
    refine contY_ap U6' (wU 6) ?_
    simp (maxSteps := 4000000) (maxDischargeDepth := 8) only [WC_seq, WC_region, WC_block, WC_ret, contS_normal, contB_ret, contR_ap, WO_nil, WO_pp, contO_ap, atD_ap, W_some, W_mv, W_st, ev_tmp, ev_const, putT_some, putT_none, get_put_eq, get_put_ne, not_false_eq_true, Option.getD_some, Nat.zero_add, st_wr, cells_int, cells_bool, List.length_cons, List.length_nil, allOne, oneCellD, Bool.and_self, Bool.and_true, Nat.beq_eq, Nat.ble_eq, Nat.le_refl, if_true, DS.wrC, Cells.size, Cells.fillFrom, Cells.set, setN, pv, DS.upd_get_ne, DS.upd_wr, eq_lt, eq_gt, lt_add_s, Nat.reduceLT, Nat.lt_add_one, Nat.succ_pos, Nat.add_lt_add_iff_left, bodyN, U0, U1, U2, U6', wU, wU0, t4, t5, t6]
    refine contZ_ap (p := .normal) (t3 := tt) (ps3 := [16, 17]) (a3 := asgN) (b3 := bodyN) (by simp (maxSteps := 4000000) (maxDischargeDepth := 8) only [not_false_eq_true, DS.upd_get_self, DS.upd_get_ne, Option.map_some, eq_gt, lt_add_s, Nat.reduceLT, Nat.succ_pos, Nat.add_lt_add_iff_left, U6']; rfl) (by simp (maxSteps := 4000000) (maxDischargeDepth := 8) only [DS.upd_wr, wU]) ?_
    refine .inr ⟨rfl, ?_, x, tt, hx, ?_, ?_, ?_, ?_⟩
    · exact Ext.trans' (Ext.upd (.inl (by simp))) (Ext.trans' (Ext.upd (.inl (by simp))) (Ext.trans' (Ext.upd (.inl (by simp))) (Ext.trans' (Ext.upd (.inl (by simp))) (Ext.upd (.inl (by simp))))))
    · simp (maxSteps := 4000000) (maxDischargeDepth := 8) only [not_false_eq_true, if_false, reduceCtorEq, DS.upd_get_self, DS.upd_get_ne, Option.map_some, eq_lt, lt_add_s, Nat.lt_add_one, Nat.succ_pos, U0]
    · simp (maxSteps := 4000000) (maxDischargeDepth := 8) only [not_false_eq_true, if_false, reduceCtorEq, DS.upd_get_self, DS.upd_get_ne, Option.map_some, eq_lt, eq_gt, Nat.reduceLT, Nat.lt_add_one, Nat.add_lt_add_iff_left, U1]
    · simp (maxSteps := 4000000) (maxDischargeDepth := 8) only [not_false_eq_true, if_false, reduceCtorEq, DS.upd_get_self, DS.upd_get_ne, Option.map_some, eq_lt, eq_gt, lt_add_s, Nat.reduceLT, Nat.lt_add_one, Nat.succ_pos, Nat.add_lt_add_iff_left, U2]
    · simp (maxSteps := 4000000) (maxDischargeDepth := 8) only [not_false_eq_true, if_false, reduceCtorEq, DS.upd_get_self, DS.upd_get_ne, Option.map_some, eq_gt, lt_add_s, Nat.reduceLT, Nat.succ_pos, Nat.add_lt_add_iff_left, U6']
      rfl
  rintro ⟨vv2, r⟩ (⟨hpos, hrU⟩ | ⟨XR, x, tt', hx, r0, r1, r2, r6⟩)
  · simp only at hrU hpos
    subst hrU
    refine contF_ap (st := .ready) (e := .normal) (U6.trans (by rw [hO2]; rfl)) (.inl rfl) (wU 6) ?_
    simp (maxSteps := 4000000) (maxDischargeDepth := 8) only [WC_seq, WC_region, WC_ret, contS_normal, contB_normal, contR_ap, WO_nil, WO_pp, contO_ap, atD_ap, W_some, W_st, ev_tmp, ev_const, putT_none, get_put_eq, get_put_ne, not_false_eq_true, Option.getD_some, Nat.zero_add, st_wr, cells_int, cells_bool, List.length_cons, List.length_nil, allOne, oneCellD, Bool.and_self, Bool.and_true, Nat.beq_eq, Nat.ble_eq, Nat.le_refl, if_true, DS.wrC, Cells.size, Cells.fillFrom, Cells.set, setN, DS.upd_get_ne, DS.upd_wr, eq_lt, eq_gt, lt_add_s, Nat.reduceLT, Nat.lt_add_one, Nat.succ_pos, Nat.add_lt_add_iff_left, U0, U1, U2, wU, wU0]
    rw [Ends_ret1 (by simp (maxSteps := 4000000) (maxDischargeDepth := 8) only [not_false_eq_true, DS.upd_get_ne, eq_lt, eq_gt, lt_add_s, Nat.reduceLT, Nat.lt_add_one, Nat.succ_pos, Nat.add_lt_add_iff_left, U5]) (by simp (maxSteps := 4000000) (maxDischargeDepth := 8) only [DS.upd_wr, wU])]
    simp (maxSteps := 4000000) (maxDischargeDepth := 8) only [W_some, dread, ev_tmp, get_put_eq, get_put_ne, not_false_eq_true, Option.getD_some, dresults, tupled, Cells.get, getN, DS.upd_get_self, DS.upd_get_ne, Option.map_some, eq_lt, eq_gt, lt_add_s, Nat.reduceLT, Nat.lt_add_one, Nat.succ_pos, Nat.add_lt_add_iff_left, U0, U1, U2, DS.rid_get_ne]
    have hnone : nextA k L = [.int .i64 0, .int .i64 0, .bool false] := by
      unfold nextA
      rw [← hpos, List.getElem?_eq_none (Nat.le_refl _)]
    refine hQ _ ⟨by rw [hnone], ?_⟩
    refine XsU.trans (G := [s.next, s.next + 1, s.next + 2, s.next + 5, s.next + 6]) (Ext.trans' (Ext.upd (.inl (by simp))) (Ext.trans' (Ext.upd (.inl (by simp))) (Ext.trans' (Ext.upd (.inl (by simp))) (Ext.trans' (Ext.upd (.inl (by simp))) (Ext.rid (.inl (by simp))))))) (by simp)
  · simp only at XR r0 r1 r2 r6
    have wR : ∀ k, r.wr (s.next + k) = true := fun k => XR.wrs (wU k)
    have R5 := XR.keep U5 (by simp)
    refine contF_ap r6 (.inr rfl) (wR 6) ?_
    simp (maxSteps := 4000000) (maxDischargeDepth := 8) only [contS_ret, contB_ret]
    rw [Ends_ret1 (by simp (maxSteps := 4000000) (maxDischargeDepth := 8) only [not_false_eq_true, DS.upd_get_ne, eq_lt, Nat.lt_add_one, R5]) (by simp (maxSteps := 4000000) (maxDischargeDepth := 8) only [DS.upd_wr, wR])]
    simp (maxSteps := 4000000) (maxDischargeDepth := 8) only [W_some, dread, ev_tmp, get_put_eq, get_put_ne, not_false_eq_true, Option.getD_some, dresults, tupled, Cells.get, getN, DS.upd_get_ne, eq_lt, lt_add_s, Nat.reduceLT, Nat.lt_add_one, Nat.succ_pos, Nat.add_lt_add_iff_left, r0, r1, r2, DS.rid_get_ne]
    have hsome : nextA k L = [.int .i64 x.1, .int .i64 x.2, .bool true] := by unfold nextA; rw [hx]
    refine hQ _ ⟨by rw [hsome], ?_⟩
    exact (XsU.trans XR (by simp)).trans (G := [s.next + 5, s.next + 6]) (Ext.trans' (Ext.upd (.inl (by simp))) (Ext.rid (.inl (by simp)))) (by simp)
end
end Go.Dx.StA
