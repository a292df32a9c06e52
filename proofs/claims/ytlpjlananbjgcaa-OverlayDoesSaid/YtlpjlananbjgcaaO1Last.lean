/- The law, and what it looks at. -/
import Derived.Test.YtlpjlananbjgcaaO1All
import Derived.Test.YtlpjlananbjgcaaO1It
import Derived.Test.YtlpjlananbjgcaaDxTopM
/- Overlays: the next entry that is shown; no changes (made by tools/gen.py out of ov5.t). -/
set_option linter.unusedVariables false
set_option linter.unusedSimpArgs false
set_option linter.unusedSectionVars false
set_option maxRecDepth 100000
set_option maxHeartbeats 4000000
namespace Go.Dx.OvA
open Go Go.Dx Go.Dx.Search Go.Dx.St Go.Proofs.Ytlpjlananbjgcaa
theorem nextA_ent (k : Int) (L : List Ent) : nextA k L = entA (L[pos k L]?) := by
  unfold nextA
  cases L[pos k L]? <;> rfl
structure NxFns (E : Env) : Prop where
  fBelow : E.fn 35 = some d35
  iBelow : E.intr 35 = none
  fNext : E.fn 10 = some d10
  iNext : E.intr 10 = none
def asgX : DCode := (.region [pp 10 (.alloc [.int .i64 0, .int .i64 0, .bool false]), ⟨none, .st 3 (tm 10) (tm 23), none, [], false⟩])
def bodyX : DCode := (.block 1 (.seq (.region [pp 24 (.fadr 0 (tm 10)), pp 25 (.ld none (tm 24)), pp 26 (.ld none (tm 3)), pp 27 (.bin .geq (tm 25) (tm 26)), pv 28 27, pg 29 (.fadr 2 (tm 10)) 28 true, pg 30 (.ld none (tm 29)) 28 true, pg 31 (.un .not (tm 30)) 28 true, pp 32 (.pick (tm 28) (tm 31) (.const (.bool false)))]) (.cond (tm 32) (.seq (.seq (.region [pp 33 (.ld none (tm 9)), pp 34 (.un .not (tm 33)), pv 35 34, pg 36 (.fadr 0 (tm 10)) 35 false, pg 37 (.ld none (tm 36)) 35 false, pg 38 (.ld none (tm 7)) 35 false, pg 39 (.bin .lss (tm 37) (tm 38)) 35 false, pp 40 (.pick (tm 35) (.const (.bool true)) (tm 39))]) (.cond (tm 40) (.seq (.region [⟨some 41, .fadr 0 (tm 10), none, [], true⟩, ⟨some 42, .ld none (tm 41), none, [], true⟩, ⟨some 43, .fadr 1 (tm 10), none, [], true⟩, ⟨some 44, .ld none (tm 43), none, [], true⟩, ⟨none, .st 1 (tm 4) (tm 42), none, [3], true⟩, ⟨none, .st 1 (tm 5) (tm 44), none, [], true⟩, ⟨none, .st 1 (tm 6) (.const (.bool true)), none, [], true⟩]) (.ret)) (.skip))) (.exit 0)) (.skip))))
def restX : DCode := (.seq (.region [⟨some 45, .ld none (tm 7), none, [], true⟩, ⟨some 46, .mv (tm 8), none, [], true⟩, ⟨some 47, .ld none (tm 9), none, [], true⟩, ⟨none, .st 1 (tm 4) (tm 45), none, [2], true⟩, ⟨none, .st 1 (tm 5) (tm 46), none, [2], true⟩, ⟨none, .st 1 (tm 6) (tm 47), none, [], true⟩]) (.ret))
structure BelI (s : DS) (o : Nat) (B : List Ent) (M : Chs) (key : Int) (i : Nat) (x : St) : Prop where
  ex : ∃ at' : Int, i = B.length - pos at' B ∧ key ≤ at' ∧ x.defers = [] ∧ (x.t.get 0 = some (.pointer (some ⟨o, 0, none⟩)) ∧ x.t.get 1 = some (.int .i64 at')) ∧ (∀ y, y ∈ B → key ≤ y.1 → y.1 < at' → ∃ c, Has M c ∧ c.1 = y.1) ∧ Ext [] s x.s
section
variable {E : Env} (hE : Fns E) (hI : Its E) (hO : OvFns E) (hH : ChFns E) (hN : NxFns E) {s s' : DS} {d : Nat} {o m b clock : Nat} {M : Chs} {kv vv : Value} {B T : List Ent} {room key : Int} {F : List Nat} {U : DS} {y1 q a0 a7 : Nat} {tt : PT Value}
include hE hI hO hH hN
theorem below_ok (cx : OvX s o m b M clock B T) (cb : StAt s b kv vv B room) (hG : s.Good) (key : Int) (hBr : ∀ x, x ∈ B → I64 x.1) :
    W (dcall E (d + 8) (.func (.func 35) #[] #[]) [.pointer (some ⟨o, 0, none⟩), .int .i64 key] s) fun r => ∃ u, r.1 = .tuple ⟨entA u⟩ ∧ Bel B M key u ∧ Ext [] s r.2 := by
  have hlf := hE.lf
  have hlb := cx.lb
  refine W_cps fun Q hQ => ?_
  rw [W_enter0 hN.iBelow hN.fBelow rfl]
  simp (maxSteps := 4000000) only [WC_seq, WC_region, WC_block, contS_normal, contR_ap, WO_nil, WO_pp, contO_ap, W_mv, ev_const, putT_some, pp, pv, pw, pg, d35]
  refine WC_loop (BelI s o B M key) (B.length - pos key B) (by omega) ⟨key, rfl, Int.le_refl _, rfl, ?_, fun y _ h1 h2 => by omega, .refl⟩ ?_
  · simp (maxSteps := 4000000) only [get_put_ne, Nat.reduceEqDiff, not_false_eq_true, ofList_get, List.getElem?_cons_zero, List.getElem?_cons_succ, Bool.and_self, and_self, reduceCtorEq]
  rintro n ⟨t, S, ds⟩ hn ⟨at', rfl, hka, hds, ⟨g0, g1⟩, hdone, X⟩
  simp only at hds g0 g1 X
  subst hds
  have hGS := X.good hG
  have c := (cx.keep X (by simp) (by simp)).at'
  have go := c.go
  have gm := c.gm
  have hol := DS.get_lt' go
  have hml := DS.get_lt' gm
  simp (maxSteps := 4000000) only [WC_seq, WC_region, WC_block, WO_pp, contO_ap, atS_ap, W_some, W_mv, W_nilck, W_fadr, W_ld, W_call, dpure, ev_tmp, ev_func, putT_some, get_put_eq, get_put_ne, Nat.reduceEqDiff, not_false_eq_true, Option.getD_some, List.map_cons, List.map_nil, ldV_at, Cells.get, getN, Nat.add_zero, g0, g1, go]
  refine W.mono (Next_ok hE hI (d := d) (cb.keep X (by simp)) hGS at') ?_
  rintro ⟨v2, s2⟩ ⟨hv2, X2⟩
  simp only at hv2 X2
  subst hv2
  have hG2 := X2.good hGS
  have c2 := c.keep X2 (by simp) (by simp)
  have go2 := c2.go
  have gm2 := c2.gm
  have hol2 := DS.get_lt' go2
  have hml2 := DS.get_lt' gm2
  rw [nextA_ent]
  have XN : ∀ ob ob2, Ext [] s2 ((s2.new ob).upd s2.next ob2) := fun ob ob2 => (Ext.new (F := [])).trans (Ext.upd (F := [s2.next]) (.inl (by simp))) (by simp)
  cases hx : B[pos at' B]? with
  | none =>
    have hnone : Bel B M key none := fun y hy hk => hdone y hy hk (Classical.byContradiction fun h => by
      obtain ⟨i, hi⟩ := List.mem_iff_getElem?.1 hy
      have hil := (List.getElem?_eq_some_iff.1 hi).1
      by_cases c3 : i < pos at' B
      · have := pos_lt at' B i y c3 hi; omega
      · rw [List.getElem?_eq_none_iff] at hx; omega)
    rcases chs_find M 0 0 with ⟨hf, _⟩ | ⟨j, x, hf, hj, _⟩
    · simp (maxSteps := 4000000) (maxDischargeDepth := 8) only [WC_seq, WC_region, WC_cond, WC_ret, contS_normal, contS_ret, contB_ret, contR_ap, contL_ret, WO_nil, WO_pp, WO_g, gateO_tf, condC_true, contO_ap, atS_ap, atD_ap, W_some, W_mv, W_pick, W_un, W_nilck, W_fadr, W_ext, W_ld, W_look, W_st, W_alloc, dpure, dread, Ends_ret, ev_tmp, ev_const, putT_some, putT_none, get_put_eq, get_put_ne, not_false_eq_true, Option.getD_some, dresults, tupled, ldV_at, Cells.get, getN, Nat.zero_add, Nat.reduceAdd, st_wr, cells_agg, List.length_cons, List.length_nil, allOne, oneCellD, Bool.and_self, Bool.and_true, Nat.beq_eq, Nat.ble_eq, Nat.le_refl, if_true, if_false, Bool.not_false, Bool.false_eq_true, DS.wrC, Cells.size, Cells.fillFrom, Cells.set, setN, List.nil_append, DS.upd_next, nextN, wrN, get_new_at, good_new, good_at, eq_lt, eq_gt, Nat.reduceLT, Nat.lt_add_one, Nat.succ_pos, entA, g0, go2, gm2, isKey, hf, hG2, hol2, hml2]
      exact hQ _ ⟨none, rfl, hnone, X.trans' (X2.trans' (XN _ _))⟩
    · have hv : (chE x).val = .agg ⟨[.int .i64 x.1.1, .int .i64 x.1.2.1, .bool x.1.2.2]⟩ := rfl
      simp (maxSteps := 4000000) (maxDischargeDepth := 8) only [WC_seq, WC_region, WC_cond, WC_ret, contS_normal, contS_ret, contB_ret, contR_ap, contL_ret, WO_nil, WO_pp, WO_g, gateO_tf, condC_true, contO_ap, atS_ap, atD_ap, W_some, W_mv, W_pick, W_un, W_nilck, W_fadr, W_ext, W_ld, W_look, W_st, W_alloc, dpure, dread, Ends_ret, ev_tmp, ev_const, putT_some, putT_none, get_put_eq, get_put_ne, not_false_eq_true, Option.getD_some, dresults, tupled, ldV_at, Cells.get, getN, Nat.zero_add, Nat.reduceAdd, st_wr, cells_agg, List.length_cons, List.length_nil, allOne, oneCellD, Bool.and_self, Bool.and_true, Nat.beq_eq, Nat.ble_eq, Nat.le_refl, if_true, if_false, Bool.not_false, Bool.false_eq_true, DS.wrC, Cells.size, Cells.fillFrom, Cells.set, setN, List.nil_append, DS.upd_next, nextN, wrN, get_new_at, good_new, good_at, eq_lt, eq_gt, Nat.reduceLT, Nat.lt_add_one, Nat.succ_pos, entA, g0, go2, gm2, isKey, hf, hv, hG2, hol2, hml2]
      exact hQ _ ⟨none, rfl, hnone, X.trans' (X2.trans' (XN _ _))⟩
  | some x =>
    obtain ⟨hxB, hxk, hfst⟩ := first_pos cx.so hx
    have hxr := hBr x hxB
    rcases chs_find M x.1 0 with ⟨hf, hno⟩ | ⟨j, z, hf, hj, hz⟩
    · simp (maxSteps := 4000000) (maxDischargeDepth := 8) only [WC_seq, WC_region, WC_cond, WC_ret, contS_normal, contS_ret, contB_ret, contR_ap, contL_ret, WO_nil, WO_pp, WO_g, gateO_ff, condC_true, contO_ap, atS_ap, atD_ap, W_some, W_mv, W_pick, W_un, W_nilck, W_fadr, W_ext, W_ld, W_look, W_st, W_alloc, dpure, dread, Ends_ret, ev_tmp, ev_const, putT_some, putT_none, get_put_eq, get_put_ne, not_false_eq_true, Option.getD_some, dresults, tupled, ldV_at, Cells.get, getN, Nat.zero_add, Nat.reduceAdd, st_wr, cells_agg, List.length_cons, List.length_nil, allOne, oneCellD, Bool.and_self, Bool.and_true, Nat.beq_eq, Nat.ble_eq, Nat.le_refl, if_true, if_false, Bool.not_true, Bool.not_false, Bool.false_eq_true, DS.wrC, Cells.size, Cells.fillFrom, Cells.set, setN, wrN, get_new_at, good_new, good_at, eq_lt, eq_gt, Nat.reduceLT, Nat.lt_add_one, Nat.succ_pos, entA, g0, go2, gm2, isKey, hf, hG2, hol2, hml2]
      refine hQ _ ⟨some x, rfl, ⟨hxB, by omega, fun c ⟨b, hb⟩ => hno _ hb, fun y hy hk hlt => hdone y hy hk (Classical.byContradiction fun h => hfst y hy (by omega) hlt)⟩, X.trans' (X2.trans' (XN _ _))⟩
    · have hv : (chE z).val = .agg ⟨[.int .i64 z.1.1, .int .i64 z.1.2.1, .bool z.1.2.2]⟩ := rfl
      have hch : ∀ y, y ∈ B → key ≤ y.1 → y.1 < x.1 + 1 → ∃ c, Has M c ∧ c.1 = y.1 := fun y hy hk hlt => by
        by_cases e : y.1 = x.1
        · exact ⟨z.1, has_at hj, by rw [hz, e]⟩
        · exact hdone y hy hk (Classical.byContradiction fun h => hfst y hy (by omega) (by omega))
      by_cases c4 : x.1 = 9223372036854775807
      · rw [c4] at hf
        simp (maxSteps := 4000000) (maxDischargeDepth := 8) only [WC_seq, WC_region, WC_cond, WC_skip, WC_ret, contS_normal, contS_ret, contB_ret, contR_ap, contL_ret, WO_nil, WO_pp, WO_g, gateO_ff, condC_true, condC_false, contO_ap, atS_ap, atD_ap, W_some, W_mv, W_pick, W_bin, W_un, W_nilck, W_fadr, W_ext, W_ld, W_look, W_st, W_alloc, dpure, dbin, dint, dread, Ends_ret, ev_tmp, ev_const, putT_some, putT_none, get_put_eq, get_put_ne, not_false_eq_true, Option.getD_some, dresults, tupled, ldV_at, Cells.get, getN, Nat.zero_add, Nat.reduceAdd, st_wr, cells_agg, List.length_cons, List.length_nil, allOne, oneCellD, Bool.and_self, Bool.and_true, Nat.beq_eq, Nat.ble_eq, Nat.le_refl, if_true, if_false, Bool.not_true, Bool.false_eq_true, DS.wrC, Cells.size, Cells.fillFrom, Cells.set, setN, wrN, decide_true, get_new_at, good_new, good_at, eq_lt, eq_gt, Nat.reduceLT, Nat.lt_add_one, Nat.succ_pos, entA, g0, go2, gm2, isKey, hf, hv, hG2, hol2, hml2, c4]
        have hb : Bel B M key none := fun y hy hk => hch y hy hk (by have := (hBr y hy).2; omega)
        exact hQ _ ⟨none, rfl, hb, X.trans' (X2.trans' (XN _ _))⟩
      · have w1 : dwrap .i64 (x.1 + 1) = x.1 + 1 := dwrap_in (by have := hxr.1; omega) (by have := hxr.2; omega)
        simp (maxSteps := 4000000) (maxDischargeDepth := 8) only [WC_seq, WC_region, WC_cond, WC_skip, contS_normal, contB_normal, contR_ap, contL_normal, WO_nil, WO_pp, WO_g, gateO_ff, condC_false, contO_ap, atS_ap, atD_ap, W_some, W_mv, W_pick, W_bin, W_un, W_nilck, W_fadr, W_ext, W_ld, W_look, W_st, W_alloc, dpure, dbin, dint, dread, ev_tmp, ev_const, putT_some, putT_none, get_put_eq, get_put_ne, not_false_eq_true, Option.getD_some, ldV_at, Cells.get, getN, Nat.zero_add, Nat.reduceAdd, st_wr, cells_agg, List.length_cons, List.length_nil, allOne, oneCellD, Bool.and_self, Bool.and_true, Nat.beq_eq, Nat.ble_eq, Nat.le_refl, if_true, if_false, Bool.not_true, Bool.false_eq_true, DS.wrC, Cells.size, Cells.fillFrom, Cells.set, setN, wrN, decide_false, get_new_at, good_new, good_at, eq_lt, eq_gt, Nat.reduceLT, Nat.lt_add_one, Nat.succ_pos, entA, g0, go2, gm2, isKey, hf, hv, hG2, hol2, hml2, c4, w1]
        have hil := (List.getElem?_eq_some_iff.1 hx).1
        refine ⟨B.length - pos (x.1 + 1) B, by rw [pos_next cx.so hx]; omega, ⟨x.1 + 1, rfl, by omega, rfl, by simp (maxSteps := 4000000) (maxDischargeDepth := 8) only [get_put_eq, get_put_ne, not_false_eq_true, Bool.and_self, and_self, eq_lt, Nat.lt_add_one, Nat.succ_pos, g0], hch, X.trans' (X2.trans' (XN _ _))⟩⟩
/-- between two rounds of Next -/
structure NxJ (U : DS) (key : Int) (M : Chs) (y1 q : Nat) (tt : PT Value) (i : Nat) (S : DS) : Prop where
  pre : ∀ j k, j < i → (keysM M)[j]? = some k → ∀ c, Has M c → c.1 = k → key ≤ c.1 → c.2.2 = true
  xt : Ext [y1] U S
  gy : S.get y1 = some (loopOb tt [23] asgX bodyX)
  ks : KeysAt S q (keysM M)
  qn : keysM M ≠ [] → q < S.next
/-- behind a break, a return -/
structure NxS (U : DS) (key : Int) (M : Chs) (u : Option Ent) (y1 a : Nat) (tt : PT Value) (S : DS) : Prop where
  ex : ∃ c, Has M c ∧ key ≤ c.1 ∧ c.2.2 = false ∧ (∀ c', Has M c' → key ≤ c'.1 → c'.2.2 = false → c.1 ≤ c'.1) ∧
    (((∃ x, u = some x ∧ ¬ c.1 < x.1) ∧ Ext [y1] U S ∧ S.get y1 = some (.loop .done (.exit 0) tt [23] asgX bodyX)) ∨
     ((∀ x, u = some x → c.1 < x.1) ∧ Ext [a, a + 1, a + 2, y1] U S ∧ S.get y1 = some (.loop .done .ret tt [23] asgX bodyX) ∧ S.get a = some (.cells (.list [.int .i64 c.1]) false) ∧ S.get (a + 1) = some (.cells (.list [.int .i64 c.2.1]) false) ∧ S.get (a + 2) = some (.cells (.list [.bool true]) false)))
omit hE hI hO hH hN in
theorem entCells (u : Option Ent) : ∃ k v is, entA u = [.int .i64 k, .int .i64 v, .bool is] ∧ ((is = true ∧ u = some (k, v)) ∨ (is = false ∧ u = none ∧ k = 0 ∧ v = 0)) := by
  cases u with
  | none => exact ⟨0, 0, false, rfl, .inr ⟨rfl, rfl, rfl, rfl⟩⟩
  | some x => exact ⟨x.1, x.2, true, rfl, .inl ⟨rfl, rfl⟩⟩
omit hE hI hO hH hN in
theorem unmask_upd' {s : DS} {nt : List Note} {haz : List Nat} {k : Nat} {o : DObj} (h : hidden nt haz k = false) : unmask s ((mask s nt haz).upd k o) = s.upd k o := by
  unfold DS.upd
  rw [mask_get h]
  split <;> rfl
theorem nxStep (hM : ChsOk M clock) (hGU : U.Good) {u : Option Ent} {k1 v1 : Int} {is1 : Bool} (hent : (is1 = true ∧ u = some (k1, v1)) ∨ (is1 = false ∧ u = none ∧ k1 = 0 ∧ v1 = 0))
    (h3 : tt.get 3 = some (.pointer (some ⟨a0, 0, none⟩))) (h4 : tt.get 4 = some (.pointer (some ⟨a0 + 1, 0, none⟩))) (h5 : tt.get 5 = some (.pointer (some ⟨a0 + 2, 0, none⟩))) (h6 : tt.get 6 = some (.pointer (some ⟨a0 + 3, 0, none⟩))) (h7 : tt.get 7 = some (.pointer (some ⟨a7, 0, none⟩))) (h9 : tt.get 9 = some (.pointer (some ⟨a7 + 1, 0, none⟩)))
    (g3 : U.get a0 = some (.cells (.list [.int .i64 key]) false)) (g4 : U.get (a0 + 1) = some (.cells (.list [.int .i64 0]) false)) (g5 : U.get (a0 + 2) = some (.cells (.list [.int .i64 0]) false)) (g6 : U.get (a0 + 3) = some (.cells (.list [.bool false]) false))
    (g7 : U.get a7 = some (.cells (.list [.int .i64 k1]) false)) (g9 : U.get (a7 + 1) = some (.cells (.list [.bool is1]) false))
    (ha : a0 + 3 < a7) (ha7 : a7 + 1 < y1) (hyq : y1 < U.next) (hqU : U.next ≤ q) (hw : ∀ k, a0 ≤ k → U.wr k = true)
    {i : Nat} {k : Int} {x : Chg × Nat} {S : DS} (hk : (keysM M)[i]? = some k) (hx : x ∈ M) (hxk : x.1.1 = k) (hj : NxJ U key M y1 q tt i S) :
    W (dcall E (d + 8) (.func (.yield y1) #[] #[]) [chV x.1] S) fun r => (r.1 = .bool true ∧ NxJ U key M y1 q tt (i + 1) r.2) ∨ (r.1 = .bool false ∧ NxS U key M u y1 (a0 + 1) tt r.2) := by
  obtain ⟨hpre, X, gy, hks, hqn⟩ := hj
  have hG := X.good hGU
  have hne : keysM M ≠ [] := fun e => by rw [e] at hk; simp at hk
  have hqn := hqn hne
  have hyn : y1 < S.next := DS.get_lt' gy
  have hXl := X.le
  have hwS : ∀ k, a0 ≤ k → S.wr k = true := fun k hk => X.wrs (hw k hk)
  refine W_yield gy rfl ?_
  obtain ⟨⟨k', v, g⟩, bt⟩ := x
  simp only at hxk
  subst hxk
  simp (maxSteps := 4000000) (maxDischargeDepth := 8) only [WC_region, contR_ap, WO_nil, WO_pp, contO_ap, atD_ap, W_some, W_st, W_alloc, ev_tmp, putT_some, putT_none, get_put_eq, get_put_ne, not_false_eq_true, Option.getD_some, Nat.zero_add, Nat.reduceAdd, st_wr, cells_agg, List.length_cons, List.length_nil, allOne, oneCellD, Bool.and_self, Bool.and_true, Nat.beq_eq, Nat.ble_eq, Nat.le_refl, if_true, DS.wrC, Cells.size, Cells.fillFrom, Cells.set, setN, pp, wrN, setParams_nil, setParams_cons, get_new_at, good_new, good_at, eq_gt, Nat.reduceLT, asgX, chV, hG]
  have gy2 : ((S.new (.cells (.list [.int .i64 0, .int .i64 0, .bool false]) false)).upd S.next (.cells (.list [.int .i64 k', .int .i64 v, .bool g]) false)).get y1 = some (loopOb tt [23] asgX bodyX) := by simp (maxSteps := 4000000) (maxDischargeDepth := 8) only [not_false_eq_true, DS.upd_get_ne, get_new_ne, eq_lt, hG, hyn, gy]
  refine contY_ap gy2 (by simp (maxSteps := 4000000) (maxDischargeDepth := 8) only [DS.upd_wr, wrN, hwS y1 (by omega)]) ?_
  obtain ⟨Sb, hSb⟩ : ∃ Sb : DS, Sb = ((S.new (.cells (.list [.int .i64 0, .int .i64 0, .bool false]) false)).upd S.next (.cells (.list [.int .i64 k', .int .i64 v, .bool g]) false)).upd y1 (.loop .busy .normal tt [23] asgX bodyX) := ⟨_, rfl⟩
  show WC _ _ _ bodyX ⟨(tt.put 23 _).put 10 (some (.pointer (some ⟨S.next, 0, none⟩))), (DS.upd (DS.upd (S.new _) S.next _) y1 (.loop .busy .normal tt [23] asgX bodyX)), []⟩ _
  rw [← hSb]
  have Xb : Ext [y1] S Sb := by
    rw [hSb]
    have x1 : Ext [y1] S (S.new (.cells (.list [.int .i64 0, .int .i64 0, .bool false]) false)) := Ext.new
    have x2 : Ext [S.next] (S.new (.cells (.list [.int .i64 0, .int .i64 0, .bool false]) false)) ((S.new (.cells (.list [.int .i64 0, .int .i64 0, .bool false]) false)).upd S.next (.cells (.list [.int .i64 k', .int .i64 v, .bool g]) false)) := Ext.upd (.inl (by simp))
    exact (x1.trans x2 (by simp)).trans' (Ext.upd (.inl (by simp)))
  have hGb := Xb.good hG
  have gbc : Sb.get S.next = some (.cells (.list [.int .i64 k', .int .i64 v, .bool g]) false) := by rw [hSb]; simp (maxSteps := 4000000) (maxDischargeDepth := 8) only [not_false_eq_true, DS.upd_get_self, DS.upd_get_ne, Option.map_some, get_new_at, eq_gt, hG, hyn]
  have gby : Sb.get y1 = some (.loop .busy .normal tt [23] asgX bodyX) := by rw [hSb]; simp (maxSteps := 4000000) (maxDischargeDepth := 8) only [not_false_eq_true, DS.upd_get_self, DS.upd_get_ne, Option.map_some, get_new_ne, eq_lt, hG, hyn, gy]
  clear hSb
  have XUb : Ext [y1] U Sb := X.trans' Xb
  have kp : ∀ j o, j ≠ y1 → U.get j = some o → Sb.get j = some o := fun j o hj h => XUb.keep h (by simpa using hj)
  have b3 := kp _ _ (by omega) g3
  have b4 := kp _ _ (by omega) g4
  have b5 := kp _ _ (by omega) g5
  have b6 := kp _ _ (by omega) g6
  have b7 := kp _ _ (by omega) g7
  have b9 := kp _ _ (by omega) g9
  have hwb : ∀ k, a0 ≤ k → Sb.wr k = true := fun k hk => Xb.wrs (hwS k hk)
  have hfst : ∀ c', Has M c' → key ≤ c'.1 → c'.2.2 = false → k' ≤ c'.1 := fun c' hc' hkc hgc => by
    obtain ⟨j, hj⟩ := List.mem_iff_getElem?.1 (keysM_mem.2 ⟨(c', hc'.choose), hc'.choose_spec, rfl⟩ : c'.1 ∈ keysM M)
    by_cases c1 : j < i
    · have := hpre j c'.1 c1 hj c' hc' rfl hkc
      rw [hgc] at this; cases this
    · by_cases c2 : j = i
      · subst c2; rw [hk] at hj; cases hj; exact Int.le_refl _
      · have hs : (keysM M).Pairwise (· ≤ ·) := sortK_sorted _
        obtain ⟨l1, e1⟩ := List.getElem?_eq_some_iff.1 hk
        obtain ⟨l2, e2⟩ := List.getElem?_eq_some_iff.1 hj
        have := List.pairwise_iff_getElem.1 hs i j l1 l2 (by omega)
        rw [e1, e2] at this
        exact this
  have hu1 : ∀ c, Has M c → c.1 = k' → c = (k', v, g) := fun c ⟨b2, hb2⟩ e => by
    have := hM.uniq' hb2 hx e
    exact (Prod.mk.inj this).1
  have hnorm : (key ≤ k' → g = true) → ∀ t', contZ y1 (fun r => (r.1 = .bool true ∧ NxJ U key M y1 q tt (i + 1) r.2) ∨ (r.1 = .bool false ∧ NxS U key M u y1 (a0 + 1) tt r.2)) .normal ⟨t', Sb, []⟩ := by
    intro hng t'
    refine contZ_ap gby (hwb _ (by omega)) (.inl ⟨rfl, ?_⟩)
    have X6 : Ext [y1] Sb (Sb.upd y1 (.loop .ready .normal tt [23] asgX bodyX)) := Ext.upd (.inl (by simp))
    refine ⟨fun j k2 hj hk2 c hc hck hkc => ?_, XUb.trans' X6, ?_, (hks.keep Xb (by simp; omega)).keep X6 (by simp; omega), fun _ => ?_⟩
    · by_cases c1 : j < i
      · exact hpre j k2 c1 hk2 c hc hck hkc
      · obtain rfl : j = i := by omega
        rw [hk] at hk2
        cases hk2
        have := hu1 c hc hck
        subst this
        exact hng hkc
    · show (Sb.upd y1 _).get y1 = _
      rw [DS.upd_get_self, gby]; rfl
    · have h1 := Xb.le; have h2 := X6.le
      exact Nat.lt_of_lt_of_le (by omega) h2
  by_cases c1 : key ≤ k'
  · cases g with
    | true =>
      simp (maxSteps := 4000000) only [WC_seq, WC_region, WC_cond, WC_block, WC_skip, contS_normal, contB_normal, contR_ap, WO_nil, WO_pp, WO_g, gateO_tt, condC_false, contO_ap, atS_ap, W_some, W_mv, W_pick, W_bin, W_un, W_fadr, W_ld, dpure, dbin, dint, ev_tmp, ev_const, putT_some, get_put_eq, get_put_ne, Nat.reduceEqDiff, not_false_eq_true, Option.getD_some, ldV_at, Cells.get, getN, Nat.zero_add, if_true, Bool.not_true, pp, pv, pg, Nat.add_zero, decide_true, bodyX, h3, h4, h5, h6, h7, h9, b3, b7, b9, gbc, c1]
      exact hnorm (fun _ => rfl) _
    | false =>
      have hret : (∀ x, u = some x → k' < x.1) → ∀ S5 : DS, Ext [a0 + 1, a0 + 2, a0 + 3] Sb S5 → S5.get (a0 + 1) = some (.cells (.list [.int .i64 k']) false) → S5.get (a0 + 1 + 1) = some (.cells (.list [.int .i64 v]) false) → S5.get (a0 + 1 + 2) = some (.cells (.list [.bool true]) false) → ∀ t', contZ y1 (fun r => (r.1 = .bool true ∧ NxJ U key M y1 q tt (i + 1) r.2) ∨ (r.1 = .bool false ∧ NxS U key M u y1 (a0 + 1) tt r.2)) .ret ⟨t', S5, []⟩ := by
        intro hlt S5 X5 e4 e5 e6 t'
        have g5y := X5.keep gby (by simp; omega)
        refine contZ_ap g5y (X5.wrs (hwb _ (by omega))) (.inr ⟨rfl, ?_⟩)
        have X6 : Ext [y1] S5 (S5.upd y1 (.loop .done .ret tt [23] asgX bodyX)) := Ext.upd (.inl (by simp))
        refine ⟨(k', v, false), ⟨bt, hx⟩, c1, rfl, hfst, .inr ⟨hlt, ?_, ?_, X6.keep e4 (by simp; omega), X6.keep e5 (by simp; omega), X6.keep e6 (by simp; omega)⟩⟩
        · exact ((XUb.weaken (by simp)).trans' (X5.weaken (by simp))).trans' (X6.weaken (by simp))
        · show (S5.upd y1 _).get y1 = _
          rw [DS.upd_get_self, g5y]; rfl
      have hSn : ¬ a0 + 1 = S.next := by omega
      have hSl : a0 + 1 < Sb.next := by have := Xb.le; omega
      have hm : (mask Sb [⟨[], Sb.next, Sb.next⟩, ⟨[S.next], Sb.next, Sb.next⟩, ⟨[], Sb.next, Sb.next⟩, ⟨[S.next], Sb.next, Sb.next⟩] [3]).get (a0 + 1) = some (.cells (.list [.int .i64 0]) false) := by rw [mask_get (by (simp only [hidden, shielded, noteAt, memN, Bool.or_false, Bool.or_eq_false_iff, Bool.and_eq_false_iff, bleF, bltF, beqF, true_and, and_true, true_or, or_true] <;> omega))]; exact b4
      have hmw : (mask Sb [⟨[], Sb.next, Sb.next⟩, ⟨[S.next], Sb.next, Sb.next⟩, ⟨[], Sb.next, Sb.next⟩, ⟨[S.next], Sb.next, Sb.next⟩] [3]).wr (a0 + 1) = true := mask_wr (hwb _ (by omega)) (by (simp only [hidden, shielded, noteAt, memN, Bool.or_false, Bool.or_eq_false_iff, Bool.and_eq_false_iff, bleF, bltF, beqF, true_and, and_true, true_or, or_true] <;> omega)) (by (simp only [hidden, shielded, noteAt, memN, Bool.or_false, Bool.or_eq_false_iff, Bool.and_eq_false_iff, bleF, bltF, beqF, true_and, and_true, true_or, or_true] <;> omega))
      have hmu : ∀ ob, unmask Sb ((mask Sb [⟨[], Sb.next, Sb.next⟩, ⟨[S.next], Sb.next, Sb.next⟩, ⟨[], Sb.next, Sb.next⟩, ⟨[S.next], Sb.next, Sb.next⟩] [3]).upd (a0 + 1) ob) = Sb.upd (a0 + 1) ob := fun ob => unmask_upd' (by (simp only [hidden, shielded, noteAt, memN, Bool.or_false, Bool.or_eq_false_iff, Bool.and_eq_false_iff, bleF, bltF, beqF, true_and, and_true, true_or, or_true] <;> omega))
      have x3 : ∀ (S0 : DS) o1 o2 o3, Ext [a0 + 1, a0 + 2, a0 + 3] S0 (((S0.upd (a0 + 1) o1).upd (a0 + 2) o2).upd (a0 + 3) o3) := fun S0 o1 o2 o3 => by
        have y1 : Ext [a0 + 1, a0 + 2, a0 + 3] S0 (S0.upd (a0 + 1) o1) := Ext.upd (.inl (by simp))
        have y2 : Ext [a0 + 1, a0 + 2, a0 + 3] (S0.upd (a0 + 1) o1) ((S0.upd (a0 + 1) o1).upd (a0 + 2) o2) := Ext.upd (.inl (by simp))
        exact (y1.trans' y2).trans' (Ext.upd (.inl (by simp)))
      have hwa : ∀ j, Sb.wr (a0 + j) = true := fun j => hwb _ (by omega)
      rcases hent with ⟨rfl, rfl⟩ | ⟨rfl, rfl, rfl, rfl⟩
      · by_cases c2 : k' < k1
        · simp (maxSteps := 4000000) (maxDischargeDepth := 8) only [WC_seq, WC_region, WC_cond, WC_block, WC_ret, contS_normal, contS_ret, contB_ret, contR_ap, WO_nil, WO_pp, WO_pn, WO_g, WO_hn, gateO_tt, gateO_ff, condC_true, contO_ap, contN_ap, contHN_ap, atS_ap, atD_ap, W_some, W_mv, W_pick, W_bin, W_un, W_fadr, W_ld, W_st, dpure, dbin, dint, ev_tmp, ev_const, putT_some, putT_none, get_put_eq, get_put_ne, not_false_eq_true, Option.getD_some, ldV_at, Cells.get, getN, Nat.zero_add, st_wr, cells_int, cells_bool, List.length_cons, List.length_nil, allOne, oneCellD, Bool.and_self, Bool.and_true, Nat.beq_eq, Nat.ble_eq, Nat.le_refl, if_true, if_false, Bool.not_true, Bool.not_false, Bool.false_eq_true, DS.wrC, Cells.size, Cells.fillFrom, Cells.set, setN, List.nil_append, List.cons_append, pp, pv, pg, DS.upd_get_ne, DS.upd_next, DS.upd_wr, nextM, Nat.add_zero, decide_true, foot, eq_lt, eq_gt, le_add_s, Nat.reduceLT, Nat.lt_add_one, Nat.add_lt_add_iff_left, bodyX, h3, h4, h5, h6, h7, h9, b3, b4, b5, b6, b7, b9, gbc, c1, c2, hwb, hm, hmw, hmu, hwa]
          exact hret (fun x e => by cases e; exact c2) _ (x3 _ _ _ _) (by simp (maxSteps := 4000000) (maxDischargeDepth := 8) only [not_false_eq_true, DS.upd_get_self, DS.upd_get_ne, Option.map_some, eq_lt, Nat.reduceLT, Nat.lt_add_one, Nat.add_lt_add_iff_left, b4]) (by simp (maxSteps := 4000000) (maxDischargeDepth := 8) only [not_false_eq_true, Nat.reduceAdd, DS.upd_get_self, DS.upd_get_ne, Option.map_some, eq_lt, eq_gt, Nat.add_assoc, Nat.lt_add_one, b5]) (by simp (maxSteps := 4000000) (maxDischargeDepth := 8) only [not_false_eq_true, Nat.reduceAdd, DS.upd_get_self, DS.upd_get_ne, Option.map_some, eq_gt, Nat.add_assoc, Nat.reduceLT, Nat.lt_add_one, Nat.add_lt_add_iff_left, b6]) _
        · simp (maxSteps := 4000000) only [WC_seq, WC_region, WC_cond, WC_block, WC_skip, WC_exit, contS_normal, contB_other, contR_ap, WO_nil, WO_pp, WO_g, gateO_tt, gateO_ff, condC_true, condC_false, contO_ap, atS_ap, W_some, W_mv, W_pick, W_bin, W_un, W_fadr, W_ld, dpure, dbin, dint, ev_tmp, ev_const, putT_some, get_put_eq, get_put_ne, Nat.reduceEqDiff, not_false_eq_true, Option.getD_some, ldV_at, Cells.get, getN, Nat.zero_add, if_true, if_false, reduceCtorEq, Bool.not_true, Bool.not_false, Bool.false_eq_true, pp, pv, pg, Nat.add_zero, decide_true, decide_false, bodyX, h3, h4, h5, h6, h7, h9, b3, b7, b9, gbc, c1, c2]
          refine contZ_ap gby (hwb _ (by omega)) (.inr ⟨rfl, ?_⟩)
          have X6 : Ext [y1] Sb (Sb.upd y1 (.loop .done (.exit 0) tt [23] asgX bodyX)) := Ext.upd (.inl (by simp))
          refine ⟨(k', v, false), ⟨bt, hx⟩, c1, rfl, hfst, .inl ⟨⟨_, rfl, c2⟩, XUb.trans' X6, ?_⟩⟩
          show (Sb.upd y1 _).get y1 = _
          rw [DS.upd_get_self, gby]; rfl
      · simp (maxSteps := 4000000) (maxDischargeDepth := 8) only [WC_seq, WC_region, WC_cond, WC_block, WC_ret, contS_normal, contS_ret, contB_ret, contR_ap, WO_nil, WO_pp, WO_pn, WO_g, WO_hn, gateO_tt, gateO_tf, condC_true, contO_ap, contN_ap, contHN_ap, atS_ap, atD_ap, W_some, W_mv, W_pick, W_bin, W_un, W_fadr, W_ld, W_st, dpure, dbin, dint, ev_tmp, ev_const, putT_some, putT_none, get_put_eq, get_put_ne, not_false_eq_true, Option.getD_some, ldV_at, Cells.get, getN, Nat.zero_add, st_wr, cells_int, cells_bool, List.length_cons, List.length_nil, allOne, oneCellD, Bool.and_self, Bool.and_true, Nat.beq_eq, Nat.ble_eq, Nat.le_refl, if_true, if_false, Bool.not_false, Bool.false_eq_true, DS.wrC, Cells.size, Cells.fillFrom, Cells.set, setN, List.nil_append, List.cons_append, pp, pv, pg, DS.upd_get_ne, DS.upd_next, DS.upd_wr, nextM, Nat.add_zero, decide_true, foot, eq_lt, eq_gt, le_add_s, Nat.reduceLT, Nat.lt_add_one, Nat.add_lt_add_iff_left, bodyX, h3, h4, h5, h6, h7, h9, b3, b4, b5, b6, b7, b9, gbc, c1, hwb, hm, hmw, hmu, hwa]
        exact hret (fun x e => by cases e) _ (x3 _ _ _ _) (by simp (maxSteps := 4000000) (maxDischargeDepth := 8) only [not_false_eq_true, DS.upd_get_self, DS.upd_get_ne, Option.map_some, eq_lt, Nat.reduceLT, Nat.lt_add_one, Nat.add_lt_add_iff_left, b4]) (by simp (maxSteps := 4000000) (maxDischargeDepth := 8) only [not_false_eq_true, Nat.reduceAdd, DS.upd_get_self, DS.upd_get_ne, Option.map_some, eq_lt, eq_gt, Nat.add_assoc, Nat.lt_add_one, b5]) (by simp (maxSteps := 4000000) (maxDischargeDepth := 8) only [not_false_eq_true, Nat.reduceAdd, DS.upd_get_self, DS.upd_get_ne, Option.map_some, eq_gt, Nat.add_assoc, Nat.reduceLT, Nat.lt_add_one, Nat.add_lt_add_iff_left, b6]) _
  · simp (maxSteps := 4000000) only [WC_seq, WC_region, WC_cond, WC_block, WC_skip, contS_normal, contB_normal, contR_ap, WO_nil, WO_pp, WO_g, gateO_ft, condC_false, contO_ap, atS_ap, W_some, W_mv, W_pick, W_bin, W_fadr, W_ld, dpure, dbin, dint, ev_tmp, ev_const, putT_some, get_put_eq, get_put_ne, Nat.reduceEqDiff, not_false_eq_true, Option.getD_some, ldV_at, Cells.get, getN, if_true, if_false, Bool.false_eq_true, List.nil_append, pp, pv, pg, Nat.add_zero, decide_false, bodyX, h3, h4, h5, h6, h7, h9, b3, b7, b9, gbc, c1]
    exact hnorm (fun h => absurd h c1) _
theorem onext_ok (cx : OvX s o m b M clock B T) (cb : StAt s b kv vv B room) (hob : ∀ k, k ∈ own b kv vv → k ≠ o ∧ k ≠ m) (hG : s.Good) (key : Int) (hBr : ∀ x, x ∈ B → I64 x.1) (hl : M.length ≤ 9000) :
    W (dcall E (d + 10) (.func (.func 10) #[] #[]) [.pointer (some ⟨o, 0, none⟩), .int .i64 key] s) fun r => r.1 = .tuple ⟨nextA key T⟩ ∧ Ext [] s r.2 := by
  have go := cx.at'.go
  have hol := DS.get_lt' go
  have hml := DS.get_lt' cx.at'.gm
  refine W_cps fun Q hQ => ?_
  rw [W_enter0 hN.iNext hN.fNext rfl]
  have hmade := fun S (X : Ext [] s S) => made_ok hE hO (cx.keep X (by simp) (by simp)).at'.go (d := d + 8)
  have hchg : ∀ dd (S : DS), dcall E (dd + 1) (.func (.func 36) #[] #[]) [.pointer (some ⟨o, 0, none⟩)] S = some (.func (.func 54) #[] #[.pointer (some ⟨S.next, 0, none⟩)], S.new (.cells (.list [.pointer (some ⟨o, 0, none⟩)]) false)) := fun dd S => by
    rw [← W_iff, W_enter0 hH.iChg hH.fChg rfl]
    simp (maxSteps := 4000000) only [WC_seq, WC_region, WC_ret, contS_normal, contR_ap, WO_nil, WO_pp, contO_ap, W_some, W_mv, W_mkf, W_box, Ends_ret, ev_tmp, ev_const, putT_some, get_put_eq, get_put_ne, Nat.reduceEqDiff, not_false_eq_true, ofList_get, List.getElem?_cons_zero, Option.getD_some, dresults, tupled, List.map_cons, List.map_nil, cells_ptr, pp, pv, d36]
  have XA : Ext [] s ((((s.new (.cells (.list [.int .i64 key]) false)).new (.cells (.list [.int .i64 0]) false)).new (.cells (.list [.int .i64 0]) false)).new (.cells (.list [.bool false]) false)) := Ext.new.trans' (Ext.new.trans' (Ext.new.trans' Ext.new))
  have hm1 := hmade _ XA
  simp (maxSteps := 4000000) (maxDischargeDepth := 8) only [WC_seq, WC_region, WC_cond, WC_skip, contS_normal, contR_ap, WO_nil, WO_pp, condC_false, contO_ap, atS_ap, W_some, W_mv, W_un, W_ld, W_alloc, W_box, W_call, dpure, ev_tmp, ev_func, putT_some, get_put_eq, get_put_ne, not_false_eq_true, ofList_get, List.getElem?_cons_zero, List.getElem?_cons_succ, Option.getD_some, List.map_cons, List.map_nil, ldV_at, Cells.get, getN, Nat.reduceAdd, cells_int, Bool.not_true, pp, pv, pg, nextN, get_new_at, get_new_ne, good_new, eq_lt, lt_add_s, Nat.add_assoc, Nat.reduceLT, Nat.lt_add_one, Nat.succ_pos, d10, hG, hm1]
  obtain ⟨SA, hSA⟩ : ∃ SA : DS, SA = ((((s.new (.cells (.list [.int .i64 key]) false)).new (.cells (.list [.int .i64 0]) false)).new (.cells (.list [.int .i64 0]) false)).new (.cells (.list [.bool false]) false)) := ⟨_, rfl⟩
  rw [← hSA] at XA ⊢
  have nA : SA.next = s.next + 4 := by rw [hSA]; rfl
  have hGA := XA.good hG
  have a3 : SA.get s.next = some (.cells (.list [.int .i64 key]) false) := by rw [hSA]; simp (maxSteps := 4000000) (maxDischargeDepth := 8) only [Nat.reduceAdd, nextN, get_new_at, get_new_ne, good_new, lt_add_s, Nat.add_assoc, Nat.lt_add_one, Nat.succ_pos, hG]
  have a4 : SA.get (s.next + 1) = some (.cells (.list [.int .i64 0]) false) := by rw [hSA]; simp (maxSteps := 4000000) (maxDischargeDepth := 8) only [Nat.reduceAdd, nextN, get_new_at, get_new_ne, good_new, Nat.add_assoc, Nat.reduceLT, Nat.lt_add_one, Nat.add_lt_add_iff_left, hG]
  have a5 : SA.get (s.next + 2) = some (.cells (.list [.int .i64 0]) false) := by rw [hSA]; simp (maxSteps := 4000000) (maxDischargeDepth := 8) only [Nat.reduceAdd, nextN, get_new_at, get_new_ne, good_new, Nat.add_assoc, Nat.lt_add_one, hG]
  have a6 : SA.get (s.next + 3) = some (.cells (.list [.bool false]) false) := by rw [hSA]; simp (maxSteps := 4000000) (maxDischargeDepth := 8) only [Nat.reduceAdd, nextN, get_new_at, good_new, Nat.add_assoc, hG]
  clear hSA hm1
  refine W.mono (below_ok hE hI hO hH hN (d := d + 1) (cx.keep XA (by simp) (by simp)) (cb.keep XA (by simp)) hGA key hBr) ?_
  rintro ⟨v1, s1⟩ ⟨u, hv1, hu, X1⟩
  simp only at hv1 X1
  obtain ⟨k1, w1, is1, hent, hcase⟩ := entCells u
  subst hv1
  have hG1 := X1.good hGA
  have n1 := X1.le
  simp (maxSteps := 4000000) (maxDischargeDepth := 8) only [WC_seq, WC_region, WC_block, contS_normal, contR_ap, WO_nil, WO_pp, contO_ap, atS_ap, atD_ap, W_some, W_mv, W_ext, W_st, W_alloc, W_call, dpure, ev_tmp, ev_func, putT_some, putT_none, get_put_eq, get_put_ne, not_false_eq_true, ofList_get, List.getElem?_cons_zero, Option.getD_some, List.map_cons, List.map_nil, getN, Nat.zero_add, Nat.reduceAdd, st_wr, cells_int, cells_bool, List.length_cons, List.length_nil, allOne, oneCellD, Bool.and_self, Bool.and_true, Nat.beq_eq, Nat.ble_eq, Nat.le_refl, if_true, DS.wrC, Cells.size, Cells.fillFrom, Cells.set, setN, DS.upd_get_ne, DS.upd_next, DS.upd_wr, nextN, wrN, get_new_at, get_new_ne, good_new, DS.upd_good, good_at, eq_lt, eq_gt, Nat.add_assoc, Nat.reduceLT, Nat.lt_add_one, Nat.succ_pos, hent, hG1, hchg]
  obtain ⟨S1, hS1⟩ : ∃ S1 : DS, S1 = ((((s1.new (.cells (.list [.int .i64 0]) false)).new (.cells (.list [.bool false]) false)).upd s1.next (.cells (.list [.int .i64 k1]) false)).upd (s1.next + 1) (.cells (.list [.bool is1]) false)).new (.cells (.list [.pointer (some ⟨o, 0, none⟩)]) false) := ⟨_, rfl⟩
  rw [← hS1]
  have XS : Ext [] s1 S1 := by
    rw [hS1]
    have y1 : Ext [] s1 ((s1.new (.cells (.list [.int .i64 0]) false)).new (.cells (.list [.bool false]) false)) := Ext.new.trans' Ext.new
    have y2 : Ext [s1.next] ((s1.new (.cells (.list [.int .i64 0]) false)).new (.cells (.list [.bool false]) false)) (((s1.new (.cells (.list [.int .i64 0]) false)).new (.cells (.list [.bool false]) false)).upd s1.next (.cells (.list [.int .i64 k1]) false)) := Ext.upd (.inl (by simp))
    have y3 : Ext [s1.next + 1] (((s1.new (.cells (.list [.int .i64 0]) false)).new (.cells (.list [.bool false]) false)).upd s1.next (.cells (.list [.int .i64 k1]) false)) ((((s1.new (.cells (.list [.int .i64 0]) false)).new (.cells (.list [.bool false]) false)).upd s1.next (.cells (.list [.int .i64 k1]) false)).upd (s1.next + 1) (.cells (.list [.bool is1]) false)) := Ext.upd (.inl (by simp))
    exact ((y1.trans y2 (by simp)).trans y3 (by simp)).trans' Ext.new
  have nS : S1.next = s1.next + 3 := by rw [hS1]; simp (maxSteps := 4000000) (maxDischargeDepth := 8) only [Nat.reduceAdd, DS.upd_next, nextN, Nat.add_assoc]
  have hGS := XS.good hG1
  have c7 : S1.get s1.next = some (.cells (.list [.int .i64 k1]) false) := by rw [hS1]; simp (maxSteps := 4000000) (maxDischargeDepth := 8) only [not_false_eq_true, Nat.reduceAdd, DS.upd_get_self, DS.upd_get_ne, DS.upd_next, Option.map_some, nextN, get_new_at, get_new_ne, good_new, DS.upd_good, eq_lt, lt_add_s, Nat.add_assoc, Nat.lt_add_one, Nat.succ_pos, hG1]
  have c9 : S1.get (s1.next + 1) = some (.cells (.list [.bool is1]) false) := by rw [hS1]; simp (maxSteps := 4000000) (maxDischargeDepth := 8) only [not_false_eq_true, Nat.reduceAdd, DS.upd_get_self, DS.upd_get_ne, DS.upd_next, Option.map_some, nextN, get_new_at, get_new_ne, good_new, DS.upd_good, eq_gt, Nat.add_assoc, Nat.lt_add_one, hG1]
  have cc : S1.get (s1.next + 2) = some (.cells (.list [.pointer (some ⟨o, 0, none⟩)]) false) := by rw [hS1]; simp (maxSteps := 4000000) (maxDischargeDepth := 8) only [Nat.reduceAdd, DS.upd_next, nextN, get_new_at, good_new, DS.upd_good, Nat.add_assoc, hG1]
  clear hS1
  have XAS : Ext [] SA S1 := X1.trans' XS
  have XsS : Ext [] s S1 := XA.trans' XAS
  refine WC_rf (by simp (maxSteps := 4000000) only [ev_tmp, get_put_eq, Option.getD_some]; rfl) ?_
  generalize hO1 : loopOb _ _ _ _ = O1
  obtain ⟨tt, hO1', t3, t4, t5, t6, t7, t9⟩ : ∃ tt, O1 = loopOb tt [23] asgX bodyX ∧ tt.get 3 = some (.pointer (some ⟨s.next, 0, none⟩)) ∧ tt.get 4 = some (.pointer (some ⟨s.next + 1, 0, none⟩)) ∧ tt.get 5 = some (.pointer (some ⟨s.next + 2, 0, none⟩)) ∧ tt.get 6 = some (.pointer (some ⟨s.next + 3, 0, none⟩)) ∧ tt.get 7 = some (.pointer (some ⟨s1.next, 0, none⟩)) ∧ tt.get 9 = some (.pointer (some ⟨s1.next + 1, 0, none⟩)) := ⟨_, hO1.symm, by simp (maxSteps := 4000000) only [get_put_eq, get_put_ne, Nat.reduceEqDiff, not_false_eq_true], by simp (maxSteps := 4000000) only [get_put_eq, get_put_ne, Nat.reduceEqDiff, not_false_eq_true], by simp (maxSteps := 4000000) only [get_put_eq, get_put_ne, Nat.reduceEqDiff, not_false_eq_true], by simp (maxSteps := 4000000) only [get_put_eq, get_put_ne, Nat.reduceEqDiff, not_false_eq_true], by simp (maxSteps := 4000000) only [get_put_eq, get_put_ne, Nat.reduceEqDiff, not_false_eq_true], by simp (maxSteps := 4000000) only [get_put_eq, get_put_ne, Nat.reduceEqDiff, not_false_eq_true]⟩
  have XU : Ext [] S1 ((S1.new .dfr).new O1) := Ext.new.trans' Ext.new
  have hGU := XU.good hGS
  have gy : ((S1.new .dfr).new O1).get (S1.next + 1) = some O1 := by simp (maxSteps := 4000000) (maxDischargeDepth := 8) only [nextN, get_new_at, good_new, hGS]
  have gd : ((S1.new .dfr).new O1).get S1.next = some .dfr := by simp (maxSteps := 4000000) (maxDischargeDepth := 8) only [nextN, get_new_at, get_new_ne, good_new, Nat.lt_add_one, hGS]
  have nU : ((S1.new .dfr).new O1).next = S1.next + 2 := by simp (maxSteps := 4000000) (maxDischargeDepth := 8) only [Nat.reduceAdd, nextN, Nat.add_assoc]
  have X0U := XsS.trans' XU
  obtain ⟨U, hU⟩ : ∃ U : DS, U = (S1.new .dfr).new O1 := ⟨_, rfl⟩
  rw [← hU] at XU hGU gy gd nU X0U ⊢
  clear hU
  have cU := cx.at'.keep X0U (by simp) (by simp)
  have XAU : Ext [] SA U := XAS.trans' XU
  have wU : ∀ k, s.next ≤ k → U.wr k = true := fun k hk => X0U.wrs (hG k hk).2
  have u3 := XAU.keep a3 (by simp)
  have u4 := XAU.keep a4 (by simp)
  have u5 := XAU.keep a5 (by simp)
  have u6 := XAU.keep a6 (by simp)
  have u7 := XU.keep c7 (by simp)
  have u9 := XU.keep c9 (by simp)
  have uc := XU.keep cc (by simp)
  refine W.mono (chg_iter hE hO hH (d := d + 7) (c := s1.next + 2) (J := NxJ U key M (S1.next + 1) (U.next + 1) tt) (Stop := NxS U key M u (S1.next + 1) (s.next + 1) tt) cx.ok hl hGU uc cU.go cU.gm (fun i S hj => ?_) (fun i k x S hk hx hxk hj => ?_) (fun S X hGS hks hqn => ?_)) ?_
  · obtain ⟨_, X, gy', hks, hqn⟩ := hj
    exact ⟨X.keep cU.go (by simp; omega), X.keep cU.gm (by simp; omega), X.keep uc (by simp; omega), hks⟩
  · exact nxStep hE hI hO hH hN cx.ok hGU hcase t3 t4 t5 t6 t7 t9 u3 u4 u5 u6 u7 u9 (by omega) (by omega) (by omega) (by omega) (fun k hk => wU k (by omega)) hk hx hxk hj
  · exact ⟨fun j k h => absurd h (Nat.not_lt_zero _), X.weaken (by simp), by rw [X.keep gy (by simp), hO1'], hks, fun h => hqn h⟩
  have hall : ∀ c, Has M c → ∃ j, j < (keysM M).length ∧ (keysM M)[j]? = some c.1 := fun c ⟨b2, h2⟩ => by
    obtain ⟨j, hj⟩ := List.mem_iff_getElem?.1 (keysM_mem.2 ⟨(c, b2), h2, rfl⟩ : c.1 ∈ keysM M)
    exact ⟨j, (List.getElem?_eq_some_iff.1 hj).1, hj⟩
  have hfin : ∀ (t' : PT Value) (S5 : DS) (r4 r5 r6 : Value), t'.get 4 = some (.pointer (some ⟨s.next + 1, 0, none⟩)) → t'.get 5 = some (.pointer (some ⟨s.next + 2, 0, none⟩)) → t'.get 6 = some (.pointer (some ⟨s.next + 3, 0, none⟩)) → [r4, r5, r6] = entA (T[pos key T]?) → S5.get S1.next = some .dfr → S5.wr S1.next = true → S5.get (s.next + 1) = some (.cells (.list [r4]) false) → S5.get (s.next + 2) = some (.cells (.list [r5]) false) → S5.get (s.next + 3) = some (.cells (.list [r6]) false) → Ext [] s S5 → Ends [.cell 4 none, .cell 5 none, .cell 6 none] Q .ret ⟨t', S5, [S1.next]⟩ := by
    intro t' S5 r4 r5 r6 k4 k5 k6 hr kd kw q4 q5 q6 X5
    rw [Ends_ret1 kd kw]
    have m4 : (S5.rid S1.next).get (s.next + 1) = some (.cells (.list [r4]) false) := by rw [DS.rid_get_ne (by omega)]; exact q4
    have m5 : (S5.rid S1.next).get (s.next + 2) = some (.cells (.list [r5]) false) := by rw [DS.rid_get_ne (by omega)]; exact q5
    have m6 : (S5.rid S1.next).get (s.next + 3) = some (.cells (.list [r6]) false) := by rw [DS.rid_get_ne (by omega)]; exact q6
    simp (maxSteps := 4000000) only [W_some, dread, ev_tmp, Option.getD_some, dresults, tupled, Cells.get, getN, k4, k5, k6, m4, m5, m6]
    refine hQ _ ⟨by rw [nextA_ent, ← hr], ?_⟩
    exact X5.trans (Ext.rid (F := [S1.next]) (.inl (by simp))) (by simp; omega)
  have hplain : T[pos key T]? = u → ∀ (t' : PT Value), t'.get 4 = some (.pointer (some ⟨s.next + 1, 0, none⟩)) → t'.get 5 = some (.pointer (some ⟨s.next + 2, 0, none⟩)) → t'.get 6 = some (.pointer (some ⟨s.next + 3, 0, none⟩)) → t'.get 7 = some (.pointer (some ⟨s1.next, 0, none⟩)) → t'.get 9 = some (.pointer (some ⟨s1.next + 1, 0, none⟩)) → t'.get 8 = some (.int .i64 w1) →
      ∀ {s3 : DS} {e3 : DExit} {st3 : LoopSt} {v3 : Value}, (e3 = .normal ∨ e3 = .exit 0) → (st3 = .ready ∨ st3 = .done) → Ext [S1.next + 1] U s3 → s3.get (S1.next + 1) = some (.loop st3 e3 tt [23] asgX bodyX) → contF (S1.next + 1) t' [S1.next] (contB 0 (contS (dcall E (d + 9)) E.lf false restX (Ends [.cell 4 none, .cell 5 none, .cell 6 none] Q))) (v3, s3) := by
    intro hT t' k4 k5 k6 k7 k9 k8 s3 e3 st3 v3 he hst X3 g3y
    refine contF_ap g3y hst (X3.wrs (wU _ (by omega))) ?_
    obtain ⟨S4, hS4⟩ : ∃ S4 : DS, S4 = s3.upd (S1.next + 1) (.loop .exhausted e3 tt [23] asgX bodyX) := ⟨_, rfl⟩
    rw [← hS4]
    have X4 : Ext [S1.next + 1] U S4 := by rw [hS4]; exact X3.trans' (Ext.upd (.inl (by simp)))
    clear hS4
    have X04 : Ext [] s S4 := X0U.trans X4 (by simp; omega)
    have w4 : ∀ k, s.next ≤ k → S4.wr k = true := fun k hk => X4.wrs (wU k hk)
    have q4 := X4.keep u4 (by simp; omega)
    have q5 := X4.keep u5 (by simp; omega)
    have q6 := X4.keep u6 (by simp; omega)
    have q7 := X4.keep u7 (by simp; omega)
    have q9 := X4.keep u9 (by simp; omega)
    have qd := X4.keep gd (by simp)
    have hn4 : s1.next + 1 < S4.next := DS.get_lt' q9
    have hent' : [.int .i64 k1, .int .i64 w1, .bool is1] = entA (T[pos key T]?) := by rw [hT, hent]
    have hw0 : ∀ j, S4.wr (s.next + j) = true := fun j => w4 _ (by omega)
    have x3 : ∀ (S0 : DS) o1 o2 o3, Ext [s.next + 1, s.next + 2, s.next + 3] S0 (((S0.upd (s.next + 1) o1).upd (s.next + 2) o2).upd (s.next + 3) o3) := fun S0 o1 o2 o3 => by
      have y1 : Ext [s.next + 1, s.next + 2, s.next + 3] S0 (S0.upd (s.next + 1) o1) := Ext.upd (.inl (by simp))
      have y2 : Ext [s.next + 1, s.next + 2, s.next + 3] (S0.upd (s.next + 1) o1) ((S0.upd (s.next + 1) o1).upd (s.next + 2) o2) := Ext.upd (.inl (by simp))
      exact (y1.trans' y2).trans' (Ext.upd (.inl (by simp)))
    have e1 : ¬ s.next + 1 = s1.next + 1 := by omega
    have e2 : ¬ s.next + 2 = s1.next + 1 := by omega
    have l1 : s.next + 1 < S4.next := by omega
    have l2 : s.next + 2 < S4.next := by omega
    have m1g : (mask S4 [⟨[s1.next], S4.next, S4.next⟩, ⟨[], S4.next, S4.next⟩, ⟨[s1.next + 1], S4.next, S4.next⟩] [2]).get (s.next + 1) = some (.cells (.list [.int .i64 0]) false) := by rw [mask_get (by (simp only [hidden, shielded, noteAt, memN, Bool.or_false, Bool.or_eq_false_iff, Bool.and_eq_false_iff, bleF, bltF, beqF, true_and, and_true, true_or, or_true] <;> omega))]; exact q4
    have m1w : (mask S4 [⟨[s1.next], S4.next, S4.next⟩, ⟨[], S4.next, S4.next⟩, ⟨[s1.next + 1], S4.next, S4.next⟩] [2]).wr (s.next + 1) = true := mask_wr (hw0 1) (by (simp only [hidden, shielded, noteAt, memN, Bool.or_false, Bool.or_eq_false_iff, Bool.and_eq_false_iff, bleF, bltF, beqF, true_and, and_true, true_or, or_true] <;> omega)) (by (simp only [hidden, shielded, noteAt, memN, Bool.or_false, Bool.or_eq_false_iff, Bool.and_eq_false_iff, bleF, bltF, beqF, true_and, and_true, true_or, or_true] <;> omega))
    have m1u : ∀ ob, unmask S4 ((mask S4 [⟨[s1.next], S4.next, S4.next⟩, ⟨[], S4.next, S4.next⟩, ⟨[s1.next + 1], S4.next, S4.next⟩] [2]).upd (s.next + 1) ob) = S4.upd (s.next + 1) ob := fun ob => unmask_upd' (by (simp only [hidden, shielded, noteAt, memN, Bool.or_false, Bool.or_eq_false_iff, Bool.and_eq_false_iff, bleF, bltF, beqF, true_and, and_true, true_or, or_true] <;> omega))
    have q5' : (S4.upd (s.next + 1) (.cells (.list [.int .i64 k1]) false)).get (s.next + 2) = some (.cells (.list [.int .i64 0]) false) := by rw [DS.upd_get_ne (by omega)]; exact q5
    have w5' : (S4.upd (s.next + 1) (.cells (.list [.int .i64 k1]) false)).wr (s.next + 2) = true := by rw [DS.upd_wr]; exact hw0 2
    have m2g : (mask (S4.upd (s.next + 1) (.cells (.list [.int .i64 k1]) false)) [⟨[s1.next], S4.next, S4.next⟩, ⟨[], S4.next, S4.next⟩, ⟨[s1.next + 1], S4.next, S4.next⟩, ⟨[], S4.next, S4.next⟩] [2]).get (s.next + 2) = some (.cells (.list [.int .i64 0]) false) := by rw [mask_get (by (simp only [hidden, shielded, noteAt, memN, Bool.or_false, Bool.or_eq_false_iff, Bool.and_eq_false_iff, bleF, bltF, beqF, true_and, and_true, true_or, or_true] <;> omega))]; exact q5'
    have m2w : (mask (S4.upd (s.next + 1) (.cells (.list [.int .i64 k1]) false)) [⟨[s1.next], S4.next, S4.next⟩, ⟨[], S4.next, S4.next⟩, ⟨[s1.next + 1], S4.next, S4.next⟩, ⟨[], S4.next, S4.next⟩] [2]).wr (s.next + 2) = true := mask_wr w5' (by (simp only [hidden, shielded, noteAt, memN, Bool.or_false, Bool.or_eq_false_iff, Bool.and_eq_false_iff, bleF, bltF, beqF, true_and, and_true, true_or, or_true] <;> omega)) (by (simp only [hidden, shielded, noteAt, memN, Bool.or_false, Bool.or_eq_false_iff, Bool.and_eq_false_iff, bleF, bltF, beqF, true_and, and_true, true_or, or_true] <;> omega))
    have m2u : ∀ ob, unmask (S4.upd (s.next + 1) (.cells (.list [.int .i64 k1]) false)) ((mask (S4.upd (s.next + 1) (.cells (.list [.int .i64 k1]) false)) [⟨[s1.next], S4.next, S4.next⟩, ⟨[], S4.next, S4.next⟩, ⟨[s1.next + 1], S4.next, S4.next⟩, ⟨[], S4.next, S4.next⟩] [2]).upd (s.next + 2) ob) = (S4.upd (s.next + 1) (.cells (.list [.int .i64 k1]) false)).upd (s.next + 2) ob := fun ob => unmask_upd' (by (simp only [hidden, shielded, noteAt, memN, Bool.or_false, Bool.or_eq_false_iff, Bool.and_eq_false_iff, bleF, bltF, beqF, true_and, and_true, true_or, or_true] <;> omega))
    rcases he with rfl | rfl
    all_goals
      simp (maxSteps := 4000000) (maxDischargeDepth := 8) only [WC_seq, WC_region, WC_ret, contS_normal, contB_normal, contB_exit, contR_ap, WO_nil, WO_pn, WO_hn, contN_ap, contHN_ap, atS_ap, atD_ap, W_some, W_mv, W_ld, W_st, ev_tmp, putT_some, putT_none, get_put_eq, get_put_ne, not_false_eq_true, Option.getD_some, ldV_at, Cells.get, getN, Nat.zero_add, st_wr, cells_int, cells_bool, List.length_cons, List.length_nil, allOne, oneCellD, Bool.and_self, Bool.and_true, Nat.beq_eq, Nat.ble_eq, Nat.le_refl, if_true, DS.wrC, Cells.size, Cells.fillFrom, Cells.set, setN, List.nil_append, List.cons_append, DS.upd_get_ne, DS.upd_next, DS.upd_wr, nextM, foot, eq_lt, eq_gt, Nat.reduceLT, Nat.lt_add_one, Nat.add_lt_add_iff_left, restX, k4, k5, k6, k7, k8, k9, q4, q5, q6, q7, q9, hw0, m1g, m1w, m1u, m2g, m2w, m2u]
      refine hfin _ _ (.int .i64 k1) (.int .i64 w1) (.bool is1) (by simp (maxSteps := 4000000) only [get_put_ne, Nat.reduceEqDiff, not_false_eq_true, k4]) (by simp (maxSteps := 4000000) only [get_put_ne, Nat.reduceEqDiff, not_false_eq_true, k5]) (by simp (maxSteps := 4000000) only [get_put_ne, Nat.reduceEqDiff, not_false_eq_true, k6]) hent' (by rw [DS.upd_get_ne (by omega), DS.upd_get_ne (by omega), DS.upd_get_ne (by omega)]; exact qd) (by rw [DS.upd_wr, DS.upd_wr, DS.upd_wr]; exact w4 _ (by omega)) (by simp (maxSteps := 4000000) (maxDischargeDepth := 8) only [not_false_eq_true, DS.upd_get_self, DS.upd_get_ne, Option.map_some, eq_lt, Nat.reduceLT, Nat.lt_add_one, Nat.add_lt_add_iff_left, q4]) (by simp (maxSteps := 4000000) (maxDischargeDepth := 8) only [not_false_eq_true, DS.upd_get_self, DS.upd_get_ne, Option.map_some, eq_lt, eq_gt, Nat.lt_add_one, q5]) (by simp (maxSteps := 4000000) (maxDischargeDepth := 8) only [not_false_eq_true, DS.upd_get_self, DS.upd_get_ne, Option.map_some, eq_gt, Nat.reduceLT, Nat.lt_add_one, Nat.add_lt_add_iff_left, q6]) ?_
      exact X04.trans (x3 _ _ _ _) (by simp)
  rintro ⟨v3, s3⟩ (hj | hj)
  · refine hplain ?_ _ (by simp (maxSteps := 4000000) only [get_put_eq, get_put_ne, Nat.reduceEqDiff, not_false_eq_true]) (by simp (maxSteps := 4000000) only [get_put_eq, get_put_ne, Nat.reduceEqDiff, not_false_eq_true]) (by simp (maxSteps := 4000000) only [get_put_eq, get_put_ne, Nat.reduceEqDiff, not_false_eq_true]) (by simp (maxSteps := 4000000) only [get_put_eq, get_put_ne, Nat.reduceEqDiff, not_false_eq_true]) (by simp (maxSteps := 4000000) only [get_put_eq, get_put_ne, Nat.reduceEqDiff, not_false_eq_true]) (by simp (maxSteps := 4000000) only [get_put_eq, get_put_ne, Nat.reduceEqDiff, not_false_eq_true]) (.inl rfl) (.inl rfl) hj.xt hj.gy
    refine cx.sh.first_un hu fun c hc hk => ?_
    obtain ⟨j, hj1, hj2⟩ := hall c hc
    exact hj.pre j c.1 hj1 hj2 c hc rfl hk
  · obtain ⟨c, hc, hkc, hg, hfst, ⟨⟨x, rfl, hx⟩, X3, g3y⟩ | ⟨hlt, X3, g3y, e4, e5, e6⟩⟩ := hj
    · exact hplain (cx.sh.first_le hu hfst hx) _ (by simp (maxSteps := 4000000) only [get_put_eq, get_put_ne, Nat.reduceEqDiff, not_false_eq_true]) (by simp (maxSteps := 4000000) only [get_put_eq, get_put_ne, Nat.reduceEqDiff, not_false_eq_true]) (by simp (maxSteps := 4000000) only [get_put_eq, get_put_ne, Nat.reduceEqDiff, not_false_eq_true]) (by simp (maxSteps := 4000000) only [get_put_eq, get_put_ne, Nat.reduceEqDiff, not_false_eq_true]) (by simp (maxSteps := 4000000) only [get_put_eq, get_put_ne, Nat.reduceEqDiff, not_false_eq_true]) (by simp (maxSteps := 4000000) only [get_put_eq, get_put_ne, Nat.reduceEqDiff, not_false_eq_true]) (.inr rfl) (.inr rfl) X3 g3y
    · refine contF_ap g3y (.inr rfl) (X3.wrs (wU _ (by omega))) ?_
      have hT := cx.sh.first_put hu hc hkc hg hfst hlt
      have X4 : Ext [S1.next + 1] s3 (s3.upd (S1.next + 1) (.loop .exhausted .ret tt [23] asgX bodyX)) := Ext.upd (.inl (by simp))
      simp only at X3 e4 e5 e6
      simp (maxSteps := 4000000) only [contS_ret, contB_ret]
      refine hfin _ _ (.int .i64 c.1) (.int .i64 c.2.1) (.bool true) (by simp (maxSteps := 4000000) only [get_put_eq, get_put_ne, Nat.reduceEqDiff, not_false_eq_true]) (by simp (maxSteps := 4000000) only [get_put_eq, get_put_ne, Nat.reduceEqDiff, not_false_eq_true]) (by simp (maxSteps := 4000000) only [get_put_eq, get_put_ne, Nat.reduceEqDiff, not_false_eq_true]) (by rw [hT]; rfl) (X4.keep (X3.keep gd (by simp; omega)) (by simp)) (X4.wrs (X3.wrs (wU _ (by omega)))) (X4.keep e4 (by simp; omega)) (X4.keep e5 (by simp; omega)) (X4.keep e6 (by simp; omega)) ?_
      exact ((X0U.trans X3 (by simp; omega))).trans X4 (by simp; omega)
end
end Go.Dx.OvA
/- Are the changes, is a store as they should be (made by tools/gen.py out of oz.t). -/
set_option linter.unusedVariables false
set_option linter.unusedSimpArgs false
set_option linter.unusedSectionVars false
set_option maxRecDepth 100000
set_option maxHeartbeats 4000000
namespace Go.Dx.OvA
open Go Go.Dx Go.Dx.Search Go.Dx.St Go.Proofs.Ytlpjlananbjgcaa
def asgG : DCode := (.region [pp 9 (.alloc [.int .i64 0, .int .i64 0, .bool false]), ⟨none, .st 3 (tm 9) (tm 15), none, [], false⟩])
def bodyG : DCode := (.block 1 (.seq (.seq (.region [pp 16 (.ld none (tm 8)), pp 17 (.ld none (tm 4)), pp 18 (.blenL (tm 17)), pp 19 (.bin .geq (tm 16) (tm 18)), pv 20 19, pg 21 (.ld (some 3) (tm 9)) 20 false, pg 22 (.ld none (tm 4)) 20 false, pg 23 (.ld none (tm 8)) 20 false, pg 24 (.ixL 3 (tm 22) (tm 23)) 20 false, pg 25 (.ld (some 3) (tm 24)) 20 false, pg 26 (.eq true (.struct [(0, 1, .one .int), (1, 1, .one .int), (2, 1, .one .bool)]) (tm 21) (tm 25)) 20 false, pp 27 (.pick (tm 20) (.const (.bool true)) (tm 26))]) (.cond (tm 27) (.seq (.region [⟨none, .st 1 (tm 6) (.const (.bool false)), none, [], false⟩]) (.ret)) (.skip))) (.seq (.region [pp 28 (.ld none (tm 8)), pp 29 (.bin .add (tm 28) (.const (.int .i64 1))), ⟨none, .st 1 (tm 8) (tm 29), none, [], false⟩]) (.seq (.region [pp 30 (.ld none (tm 8)), pp 31 (.ld none (tm 5)), pp 32 (.bin .eql (tm 30) (tm 31))]) (.cond (tm 32) (.seq (.region [⟨none, .st 1 (tm 6) (.const (.bool true)), none, [], false⟩]) (.ret)) (.skip))))))
def asgL : DCode := (.seq (.region [pv 7 33]) (.region [pv 8 34]))
def bodyL : DCode := (.block 1 (.seq (.seq (.region [pp 35 (.ld none (tm 6)), pp 36 (.ld none (tm 3)), pp 37 (.nilck (tm 36)), pp 38 (.fadr 0 (tm 37)), pp 39 (.ld none (tm 38)), pp 40 (.blenL (tm 39)), pp 41 (.bin .geq (tm 35) (tm 40)), pv 42 41, pg 43 (.ld none (tm 3)) 42 false, pg 44 (.nilck (tm 43)) 42 false, pg 45 (.fadr 0 (tm 44)) 42 false, pg 46 (.ld none (tm 45)) 42 false, pg 47 (.ld none (tm 6)) 42 false, pg 48 (.ixL 2 (tm 46) (tm 47)) 42 false, pg 49 (.fadr 0 (tm 48)) 42 false, pg 50 (.ld none (tm 49)) 42 false, pw 51 7 42 false, pg 52 (.bin .neq (tm 50) (tm 51)) 42 false, pp 53 (.pick (tm 42) (.const (.bool true)) (tm 52)), pv 54 53, pg 55 (.ld none (tm 3)) 54 false, pg 56 (.nilck (tm 55)) 54 false, pg 57 (.fadr 0 (tm 56)) 54 false, pg 58 (.ld none (tm 57)) 54 false, pg 59 (.ld none (tm 6)) 54 false, pg 60 (.ixL 2 (tm 58) (tm 59)) 54 false, pg 61 (.fadr 1 (tm 60)) 54 false, pg 62 (.ld none (tm 61)) 54 false, pw 63 8 54 false, pg 64 (.bin .neq (tm 62) (tm 63)) 54 false, pp 65 (.pick (tm 54) (.const (.bool true)) (tm 64))]) (.cond (tm 65) (.seq (.region [⟨none, .st 1 (tm 4) (.const (.bool false)), none, [], false⟩]) (.ret)) (.skip))) (.region [pp 66 (.ld none (tm 6)), pp 67 (.bin .add (tm 66) (.const (.int .i64 1))), ⟨none, .st 1 (tm 6) (tm 67), none, [], false⟩])))
structure CgFns (E : Env) : Prop where
  fCg : E.fn 16 = some d16
  iCg : E.intr 16 = none
  fLk : E.fn 26 = some d26
  iLk : E.intr 26 = none
  fr : ∀ d, CallFrame (dcall E d)
structure CgJ (U : DS) (y1 q a : Nat) (tt : PT Value) (kl : List Int) (i : Nat) (S : DS) : Prop where
  gn : S.get (a + 4) = some (.cells (.list [.int .i64 (i : Int)]) false)
  xt : Ext [y1, a + 4] U S
  gy : S.get y1 = some (loopOb tt [15] asgG bodyG)
  ks : KeysAt S q kl
  qn : kl ≠ [] → q < S.next
structure CgS (U : DS) (y1 a : Nat) (tt : PT Value) (S : DS) : Prop where
  gr : S.get (a + 2) = some (.cells (.list [.bool true]) false)
  xt : Ext [y1, a + 2, a + 4] U S
  gy : S.get y1 = some (.loop .done .ret tt [15] asgG bodyG)
theorem chg_self (c : Chg) : eqValF 5000 (.struct [(0, 1, .one .int), (1, 1, .one .int), (2, 1, .one .bool)]) (.agg ⟨[.int .i64 c.1, .int .i64 c.2.1, .bool c.2.2]⟩) (.agg ⟨[.int .i64 c.1, .int .i64 c.2.1, .bool c.2.2]⟩) = some true := by
  simp [eqValF, eqFieldsF, eqOne, getN]
section
variable {E : Env} (hF : Fns E) (hI : Its E) (hO : OvFns E) (hH : ChFns E) (hN : NxFns E) (hQf : CgFns E) {s : DS} {d : Nat} {o m b clock : Nat} {M : Chs} {C : List Chg} {B T : List Ent} {v : Value} {most : Int}
include hF hI hO hH hN hQf
theorem chgStep {U S : DS} {y1 q a : Nat} {tt : PT Value} (hM : ChsOk M clock) (hC : Ch4 M C) (hm : most = -1 ∨ most = 1) (hGU : U.Good)
    (t4 : tt.get 4 = some (.pointer (some ⟨a, 0, none⟩))) (t5 : tt.get 5 = some (.pointer (some ⟨a + 1, 0, none⟩))) (t6 : tt.get 6 = some (.pointer (some ⟨a + 2, 0, none⟩))) (t8 : tt.get 8 = some (.pointer (some ⟨a + 4, 0, none⟩)))
    (g4 : U.get a = some (.cells (.list [v]) false)) (g5 : U.get (a + 1) = some (.cells (.list [.int .i64 most]) false)) (g6 : U.get (a + 2) = some (.cells (.list [.bool false]) false)) (hsl : SlX U 3 v (chsV C)) (hl : C.length ≤ 9000)
    (hbv : ∀ k, k ∈ blk v → k < a) (ha : a + 4 < y1) (hyq : y1 < U.next) (hqU : U.next ≤ q) (hw : ∀ k, a ≤ k → U.wr k = true)
    {i : Nat} {k : Int} {x : Chg × Nat} (hk : (keysM M)[i]? = some k) (hx : x ∈ M) (hxk : x.1.1 = k) (hj : CgJ U y1 q a tt (keysM M) i S) :
    W (dcall E (d + 1) (.func (.yield y1) #[] #[]) [chV x.1] S) fun r => (r.1 = .bool true ∧ CgJ U y1 q a tt (keysM M) (i + 1) r.2) ∨ (r.1 = .bool false ∧ CgS U y1 a tt r.2) := by
  obtain ⟨gn, X, gy, hks, hqn⟩ := hj
  have hG := X.good hGU
  have hne : keysM M ≠ [] := fun e => by rw [e] at hk; simp at hk
  have hqn := hqn hne
  have hyn : y1 < S.next := DS.get_lt' gy
  have hXl := X.le
  have hwS : ∀ k, a ≤ k → S.wr k = true := fun k hk => X.wrs (hw k hk)
  have hcl := chsV_len C
  have hci : C[i]? = some x.1 := by
    have h1 := hC.keys hM
    have h2 : (C.map (·.1))[i]? = some k := by rw [h1]; exact hk
    rw [List.getElem?_map] at h2
    cases hc : C[i]? with
    | none => rw [hc] at h2; simp at h2
    | some c =>
      rw [hc] at h2
      simp at h2
      obtain ⟨b', hb'⟩ := (hC.mem c).1 (List.mem_of_getElem? hc)
      have := hM.uniq' hb' hx (by rw [hxk]; exact h2)
      rw [← this]
  have hil := (List.getElem?_eq_some_iff.1 hci).1
  refine W_yield gy rfl ?_
  obtain ⟨⟨k', vv, g⟩, bt⟩ := x
  simp only at hxk hci
  subst hxk
  simp (maxSteps := 4000000) (maxDischargeDepth := 8) only [WC_region, contR_ap, WO_nil, WO_pp, contO_ap, atD_ap, W_some, W_st, W_alloc, ev_tmp, putT_some, putT_none, get_put_eq, get_put_ne, not_false_eq_true, Option.getD_some, Nat.zero_add, Nat.reduceAdd, st_wr, cells_agg, List.length_cons, List.length_nil, allOne, oneCellD, Bool.and_self, Bool.and_true, Nat.beq_eq, Nat.ble_eq, Nat.le_refl, if_true, DS.wrC, Cells.size, Cells.fillFrom, Cells.set, setN, pp, wrN, setParams_nil, setParams_cons, get_new_at, good_new, good_at, eq_gt, Nat.reduceLT, asgG, chV, hG]
  have gy2 : ((S.new (.cells (.list [.int .i64 0, .int .i64 0, .bool false]) false)).upd S.next (.cells (.list [.int .i64 k', .int .i64 vv, .bool g]) false)).get y1 = some (loopOb tt [15] asgG bodyG) := by simp (maxSteps := 4000000) (maxDischargeDepth := 8) only [not_false_eq_true, DS.upd_get_ne, get_new_ne, eq_lt, hG, hyn, gy]
  refine contY_ap gy2 (by simp (maxSteps := 4000000) (maxDischargeDepth := 8) only [DS.upd_wr, wrN, hwS y1 (by omega)]) ?_
  obtain ⟨Sb, hSb⟩ : ∃ Sb : DS, Sb = ((S.new (.cells (.list [.int .i64 0, .int .i64 0, .bool false]) false)).upd S.next (.cells (.list [.int .i64 k', .int .i64 vv, .bool g]) false)).upd y1 (.loop .busy .normal tt [15] asgG bodyG) := ⟨_, rfl⟩
  show WC _ _ _ bodyG ⟨(tt.put 15 _).put 9 (some (.pointer (some ⟨S.next, 0, none⟩))), (DS.upd (DS.upd (S.new _) S.next _) y1 (.loop .busy .normal tt [15] asgG bodyG)), []⟩ _
  rw [← hSb]
  have Xb : Ext [y1] S Sb := by
    rw [hSb]
    have x1 : Ext [y1] S (S.new (.cells (.list [.int .i64 0, .int .i64 0, .bool false]) false)) := Ext.new
    have x2 : Ext [S.next] (S.new (.cells (.list [.int .i64 0, .int .i64 0, .bool false]) false)) ((S.new (.cells (.list [.int .i64 0, .int .i64 0, .bool false]) false)).upd S.next (.cells (.list [.int .i64 k', .int .i64 vv, .bool g]) false)) := Ext.upd (.inl (by simp))
    exact (x1.trans x2 (by simp)).trans' (Ext.upd (.inl (by simp)))
  have hGb := Xb.good hG
  have gbc : Sb.get S.next = some (.cells (.list [.int .i64 k', .int .i64 vv, .bool g]) false) := by rw [hSb]; simp (maxSteps := 4000000) (maxDischargeDepth := 8) only [not_false_eq_true, DS.upd_get_self, DS.upd_get_ne, Option.map_some, get_new_at, eq_gt, hG, hyn]
  have gby : Sb.get y1 = some (.loop .busy .normal tt [15] asgG bodyG) := by rw [hSb]; simp (maxSteps := 4000000) (maxDischargeDepth := 8) only [not_false_eq_true, DS.upd_get_self, DS.upd_get_ne, Option.map_some, get_new_ne, eq_lt, hG, hyn, gy]
  clear hSb
  have XUb : Ext [y1, a + 4] U Sb := X.trans' (Xb.weaken (by simp))
  have kp : ∀ j o, j ≠ y1 → j ≠ a + 4 → U.get j = some o → Sb.get j = some o := fun j o h1 h2 h => XUb.keep h (by simp; exact ⟨h1, h2⟩)
  have b4 := kp _ _ (by omega) (by omega) g4
  have b5 := kp _ _ (by omega) (by omega) g5
  have b6 := kp _ _ (by omega) (by omega) g6
  have bn := Xb.keep gn (by simp; omega)
  have hslb := hsl.keep XUb (fun k hk => by have := hbv k hk; simp; omega)
  obtain ⟨bb, sp, hvv, hsp, hgb, hwbb⟩ := hslb.at (fun e => by rw [e] at hcl; simp at hcl; omega)
  rw [hcl] at hvv
  rw [hvv] at b4
  have hrd : Sb.read bb 0 ((chsV C).length * 3) = some (chsV C).flatten := by
    unfold DS.read
    rw [hgb]
    simp only
    have := (chsV_ok C).flat
    rw [take_list _ _ _ (by omega)]
    simp only [List.drop_zero]
    rw [List.take_of_length_le (by omega)]
  have hld : ldA 3 (.pointer (some ⟨bb, i * 3, none⟩)) Sb = some (.agg ⟨[.int .i64 k', .int .i64 vv, .bool g]⟩) := by
    have h := row_read hrd (chsV_ok C).len (chsV_at hci)
    rw [Nat.zero_add] at h
    unfold ldA
    simp only [h]
    rfl
  have hldc : ldA 3 (.pointer (some ⟨S.next, 0, none⟩)) Sb = some (.agg ⟨[.int .i64 k', .int .i64 vv, .bool g]⟩) := by
    unfold ldA DS.read
    simp only [gbc]
    rfl
  have hwb : ∀ k, a ≤ k → Sb.wr k = true := fun k hk => Xb.wrs (hwS k hk)
  have hwn := hwb (a + 4) (by omega)
  have hw2 := hwb (a + 2) (by omega)
  have e1 : ¬ (C.length : Int) ≤ (i : Int) := by omega
  have hself := chg_self (k', vv, g)
  have w1 : dwrap .i64 ((i : Int) + 1) = ((i + 1 : Nat) : Int) := by rw [dwrap_in (by omega) (by omega)]; omega
  have X4 : Ext [a + 4] Sb (Sb.upd (a + 4) (.cells (.list [.int .i64 ((i + 1 : Nat) : Int)]) false)) := Ext.upd (.inl (by simp))
  have gn4 : (Sb.upd (a + 4) (.cells (.list [.int .i64 ((i + 1 : Nat) : Int)]) false)).get (a + 4) = some (.cells (.list [.int .i64 ((i + 1 : Nat) : Int)]) false) := by rw [DS.upd_get_self, bn]; rfl
  have hfin : ∀ t', contZ y1 (fun r => (r.1 = .bool true ∧ CgJ U y1 q a tt (keysM M) (i + 1) r.2) ∨ (r.1 = .bool false ∧ CgS U y1 a tt r.2)) .normal ⟨t', Sb.upd (a + 4) (.cells (.list [.int .i64 ((i + 1 : Nat) : Int)]) false), []⟩ := by
    intro t'
    have g5y := X4.keep gby (by simp; omega)
    refine contZ_ap g5y (X4.wrs (hwb _ (by omega))) (.inl ⟨rfl, ?_⟩)
    have X6 : Ext [y1] (Sb.upd (a + 4) (.cells (.list [.int .i64 ((i + 1 : Nat) : Int)]) false)) ((Sb.upd (a + 4) (.cells (.list [.int .i64 ((i + 1 : Nat) : Int)]) false)).upd y1 (.loop .ready .normal tt [15] asgG bodyG)) := Ext.upd (.inl (by simp))
    refine ⟨X6.keep gn4 (by simp; omega), (XUb.trans' (X4.weaken (by simp))).trans' (X6.weaken (by simp)), ?_, ((hks.keep Xb (by simp; omega)).keep X4 (by simp; omega)).keep X6 (by simp; omega), fun _ => ?_⟩
    · show (DS.upd _ y1 _).get y1 = _
      rw [DS.upd_get_self, g5y]; rfl
    · have h1 := Xb.le; have h2 := X6.le; have h3 := X4.le
      exact Nat.lt_of_lt_of_le (by omega) h2
  by_cases c1 : ((i + 1 : Nat) : Int) = most
  · have c1' : (((i + 1 : Nat) : Int) = most) = True := eq_true c1
    simp (maxSteps := 4000000) (maxDischargeDepth := 8) only [WC_seq, WC_region, WC_cond, WC_block, WC_skip, WC_ret, contS_normal, contB_ret, contR_ap, WO_nil, WO_pp, WO_g, gateO_ff, condC_true, condC_false, contO_ap, atS_ap, atD_ap, W_some, W_mv, W_pick, W_bin, W_ixL, W_blenL, W_ld, W_st, dpure, dbin, dint, ev_tmp, ev_const, putT_some, putT_none, get_put_eq, get_put_ne, not_false_eq_true, Option.getD_some, ldV_at, Cells.get, getN, Nat.zero_add, st_wr, cells_int, cells_bool, List.length_cons, List.length_nil, allOne, oneCellD, Bool.and_self, Bool.and_true, Nat.beq_eq, Nat.ble_eq, Nat.blt_eq, Nat.le_refl, if_true, if_false, Bool.not_true, Bool.false_eq_true, DS.wrC, Cells.size, Cells.fillFrom, Cells.set, setN, pp, pv, pg, DS.upd_get_ne, DS.upd_wr, W_ldA, asIdx_cast, decide_true, decide_false, eq_lt, Nat.reduceLT, Nat.lt_add_one, bodyG, t4, t5, t6, t8, b4, b5, b6, bn, e1, hil, hgb, hld, hldc, W_eq, hself, w1, hwn, hw2, gn4, c1', show ¬ a + 1 = a + 4 by omega, show ¬ a + 2 = a + 4 by omega, show ¬ a = a + 4 by omega]
    have X5 : Ext [a + 2] (Sb.upd (a + 4) (.cells (.list [.int .i64 ((i + 1 : Nat) : Int)]) false)) ((Sb.upd (a + 4) (.cells (.list [.int .i64 ((i + 1 : Nat) : Int)]) false)).upd (a + 2) (.cells (.list [.bool true]) false)) := Ext.upd (.inl (by simp))
    have g5y := X5.keep (X4.keep gby (by simp; omega)) (by simp; omega)
    have b6' := X4.keep b6 (by simp)
    refine contZ_ap g5y (X5.wrs (X4.wrs (hwb _ (by omega)))) (.inr ⟨rfl, ?_⟩)
    have X6 : ∀ S5 : DS, Ext [y1] S5 (S5.upd y1 (.loop .done .ret tt [15] asgG bodyG)) := fun S5 => Ext.upd (.inl (by simp))
    refine ⟨?_, ((XUb.weaken (by simp)).trans' (X4.weaken (by simp))).trans' ((X5.weaken (by simp)).trans' ((X6 _).weaken (by simp))), ?_⟩
    · refine (X6 _).keep ?_ (by simp; omega)
      rw [DS.upd_get_self, b6']; rfl
    · show (DS.upd _ y1 _).get y1 = _
      rw [DS.upd_get_self, g5y]; rfl
  · simp (maxSteps := 4000000) (maxDischargeDepth := 8) only [WC_seq, WC_region, WC_cond, WC_block, WC_skip, contS_normal, contB_normal, contR_ap, WO_nil, WO_pp, WO_g, gateO_ff, condC_false, contO_ap, atS_ap, atD_ap, W_some, W_mv, W_pick, W_bin, W_ixL, W_blenL, W_ld, W_st, dpure, dbin, dint, ev_tmp, ev_const, putT_some, putT_none, get_put_eq, get_put_ne, not_false_eq_true, Option.getD_some, ldV_at, Cells.get, getN, Nat.zero_add, st_wr, cells_int, List.length_cons, List.length_nil, allOne, oneCellD, Bool.and_self, Bool.and_true, Nat.beq_eq, Nat.ble_eq, Nat.blt_eq, Nat.le_refl, if_true, if_false, Bool.not_true, Bool.false_eq_true, DS.wrC, Cells.size, Cells.fillFrom, Cells.set, setN, pp, pv, pg, DS.upd_get_ne, W_ldA, asIdx_cast, decide_false, eq_lt, Nat.reduceLT, Nat.lt_add_one, bodyG, t4, t5, t6, t8, b4, b5, b6, bn, e1, hil, hgb, hld, hldc, W_eq, hself, w1, hwn, hw2, gn4, c1, show ¬ a + 1 = a + 4 by omega, show ¬ a + 2 = a + 4 by omega, show ¬ a = a + 4 by omega]
    exact hfin _
theorem chgs_ok (cx : OvX s o m b M clock B T) (hC : Ch4 M C) (hsl : SlX s 3 v (chsV C)) (hm : most = -1 ∨ most = 1) (hG : s.Good) (hl : M.length ≤ 9000) :
    W (dcall E (d + 3) (.func (.func 16) #[] #[]) [.pointer (some ⟨o, 0, none⟩), v, .int .i64 most] s) fun r => r.1 = .bool true ∧ Ext [] s r.2 := by
  have go := cx.at'.go
  have hol := DS.get_lt' go
  have hml := DS.get_lt' cx.at'.gm
  have hCl := hC.len cx.ok
  have hkl := keysM_len M
  have hvl := hsl.lt
  have hcl := chsV_len C
  refine W_cps fun Q hQ => ?_
  rw [W_enter0 hQf.iCg hQf.fCg rfl]
  have hchg : ∀ dd (S : DS), dcall E (dd + 1) (.func (.func 36) #[] #[]) [.pointer (some ⟨o, 0, none⟩)] S = some (.func (.func 54) #[] #[.pointer (some ⟨S.next, 0, none⟩)], S.new (.cells (.list [.pointer (some ⟨o, 0, none⟩)]) false)) := fun dd S => by
    rw [← W_iff, W_enter0 hH.iChg hH.fChg rfl]
    simp (maxSteps := 4000000) only [WC_seq, WC_region, WC_ret, contS_normal, contR_ap, WO_nil, WO_pp, contO_ap, W_some, W_mv, W_mkf, W_box, Ends_ret, ev_tmp, ev_const, putT_some, get_put_eq, get_put_ne, Nat.reduceEqDiff, not_false_eq_true, ofList_get, List.getElem?_cons_zero, Option.getD_some, dresults, tupled, List.map_cons, List.map_nil, cells_ptr, pp, pv, d36]
  obtain ⟨va, hvs⟩ := hsl.shape
  rw [hcl] at hvs
  have hcells : v.cells.toList = [v] := by rw [hvs]; rfl
  simp (maxSteps := 4000000) (maxDischargeDepth := 8) only [WC_seq, WC_region, WC_cond, WC_block, WC_skip, contS_normal, contR_ap, WO_nil, WO_pp, condC_false, contO_ap, atD_ap, atB_ap, W_some, W_mv, W_eq1, W_st, W_alloc, W_box, W_call, eqOne, ev_tmp, ev_const, ev_func, putT_some, putT_none, get_put_eq, get_put_ne, not_false_eq_true, ofList_get, List.getElem?_cons_zero, List.getElem?_cons_succ, Option.getD_some, List.map_cons, List.map_nil, Nat.zero_add, Nat.reduceAdd, st_wr, cells_int, List.length_cons, List.length_nil, allOne, oneCellD, Bool.and_self, Bool.and_true, Nat.beq_eq, Nat.ble_eq, Nat.le_refl, if_true, if_false, Bool.not_false, Bool.false_eq_true, DS.wrC, Cells.size, Cells.fillFrom, Cells.set, setN, pp, pv, pg, nextN, wrN, get_new_at, good_new, good_at, eq_lt, Nat.add_assoc, Nat.reduceLT, Nat.lt_add_one, Nat.succ_pos, d16, hG, hchg, hcells]
  obtain ⟨S1, hS1⟩ : ∃ S1 : DS, S1 = (((((s.new (.cells (.list [v]) false)).new (.cells (.list [.int .i64 most]) false)).new (.cells (.list [.bool false]) false)).new (.cells (.list [.pointer (some ⟨o, 0, none⟩)]) false)).new (.cells (.list [.int .i64 0]) false)).upd (s.next + 4) (.cells (.list [.int .i64 0]) false) := ⟨_, rfl⟩
  rw [← hS1]
  have X1 : Ext [] s S1 := by
    rw [hS1]
    have y1 : Ext [] s (((((s.new (.cells (.list [v]) false)).new (.cells (.list [.int .i64 most]) false)).new (.cells (.list [.bool false]) false)).new (.cells (.list [.pointer (some ⟨o, 0, none⟩)]) false)).new (.cells (.list [.int .i64 0]) false)) := Ext.new.trans' (Ext.new.trans' (Ext.new.trans' (Ext.new.trans' Ext.new)))
    exact y1.trans (Ext.upd (F := [s.next + 4]) (.inl (by simp))) (by simp)
  have hG1 := X1.good hG
  have n1 : S1.next = s.next + 5 := by rw [hS1]; simp (maxSteps := 4000000) (maxDischargeDepth := 8) only [Nat.reduceAdd, DS.upd_next, nextN, Nat.add_assoc]
  have q4 : S1.get s.next = some (.cells (.list [v]) false) := by rw [hS1]; simp (maxSteps := 4000000) (maxDischargeDepth := 8) only [not_false_eq_true, Nat.reduceAdd, DS.upd_get_ne, nextN, get_new_at, get_new_ne, good_new, eq_lt, lt_add_s, Nat.add_assoc, Nat.lt_add_one, Nat.succ_pos, hG]
  have q5 : S1.get (s.next + 1) = some (.cells (.list [.int .i64 most]) false) := by rw [hS1]; simp (maxSteps := 4000000) (maxDischargeDepth := 8) only [not_false_eq_true, Nat.reduceAdd, DS.upd_get_ne, nextN, get_new_at, get_new_ne, good_new, eq_lt, Nat.add_assoc, Nat.reduceLT, Nat.lt_add_one, Nat.add_lt_add_iff_left, hG]
  have q6 : S1.get (s.next + 2) = some (.cells (.list [.bool false]) false) := by rw [hS1]; simp (maxSteps := 4000000) (maxDischargeDepth := 8) only [not_false_eq_true, Nat.reduceAdd, DS.upd_get_ne, nextN, get_new_at, get_new_ne, good_new, eq_lt, Nat.add_assoc, Nat.reduceLT, Nat.lt_add_one, Nat.add_lt_add_iff_left, hG]
  have q8 : S1.get (s.next + 4) = some (.cells (.list [.int .i64 0]) false) := by rw [hS1]; simp (maxSteps := 4000000) (maxDischargeDepth := 8) only [Nat.reduceAdd, DS.upd_get_self, Option.map_some, nextN, get_new_at, good_new, Nat.add_assoc, hG]
  have qc : S1.get (s.next + 3) = some (.cells (.list [.pointer (some ⟨o, 0, none⟩)]) false) := by rw [hS1]; simp (maxSteps := 4000000) (maxDischargeDepth := 8) only [not_false_eq_true, Nat.reduceAdd, DS.upd_get_ne, nextN, get_new_at, get_new_ne, good_new, eq_lt, Nat.add_assoc, Nat.lt_add_one, hG]
  clear hS1
  refine WC_rf (by simp (maxSteps := 4000000) only [ev_tmp, get_put_eq, Option.getD_some]; rfl) ?_
  generalize hO1 : loopOb _ _ _ _ = O1
  obtain ⟨tt, hO1', t4, t5, t6, t8⟩ : ∃ tt, O1 = loopOb tt [15] asgG bodyG ∧ tt.get 4 = some (.pointer (some ⟨s.next, 0, none⟩)) ∧ tt.get 5 = some (.pointer (some ⟨s.next + 1, 0, none⟩)) ∧ tt.get 6 = some (.pointer (some ⟨s.next + 2, 0, none⟩)) ∧ tt.get 8 = some (.pointer (some ⟨s.next + 4, 0, none⟩)) := ⟨_, hO1.symm, by simp (maxSteps := 4000000) only [get_put_eq, get_put_ne, Nat.reduceEqDiff, not_false_eq_true], by simp (maxSteps := 4000000) only [get_put_eq, get_put_ne, Nat.reduceEqDiff, not_false_eq_true], by simp (maxSteps := 4000000) only [get_put_eq, get_put_ne, Nat.reduceEqDiff, not_false_eq_true], by simp (maxSteps := 4000000) only [get_put_eq, get_put_ne, Nat.reduceEqDiff, not_false_eq_true]⟩
  have XU : Ext [] S1 ((S1.new .dfr).new O1) := Ext.new.trans' Ext.new
  have hGU := XU.good hG1
  have gy : ((S1.new .dfr).new O1).get (S1.next + 1) = some O1 := by simp (maxSteps := 4000000) (maxDischargeDepth := 8) only [nextN, get_new_at, good_new, hG1]
  have gd : ((S1.new .dfr).new O1).get S1.next = some .dfr := by simp (maxSteps := 4000000) (maxDischargeDepth := 8) only [nextN, get_new_at, get_new_ne, good_new, Nat.lt_add_one, hG1]
  have nU : ((S1.new .dfr).new O1).next = S1.next + 2 := by simp (maxSteps := 4000000) (maxDischargeDepth := 8) only [Nat.reduceAdd, nextN, Nat.add_assoc]
  have X0U := X1.trans' XU
  obtain ⟨U, hU⟩ : ∃ U : DS, U = (S1.new .dfr).new O1 := ⟨_, rfl⟩
  rw [← hU] at XU hGU gy gd nU X0U ⊢
  clear hU
  have cU := cx.at'.keep X0U (by simp) (by simp)
  have wU : ∀ k, s.next ≤ k → U.wr k = true := fun k hk => X0U.wrs (hG k hk).2
  have u4 := XU.keep q4 (by simp)
  have u5 := XU.keep q5 (by simp)
  have u6 := XU.keep q6 (by simp)
  have u8 := XU.keep q8 (by simp)
  have uc := XU.keep qc (by simp)
  have hslU := hsl.keep X0U (by simp)
  have hres : ∀ (t' : PT Value) (S5 : DS), t'.get 6 = some (.pointer (some ⟨s.next + 2, 0, none⟩)) → S5.get S1.next = some .dfr → S5.wr S1.next = true → S5.get (s.next + 2) = some (.cells (.list [.bool true]) false) → Ext [] s S5 → Ends [.cell 6 none] Q .ret ⟨t', S5, [S1.next]⟩ := by
    intro t' S5 k6 kd kw r6 X5
    rw [Ends_ret1 kd kw]
    have m6 : (S5.rid S1.next).get (s.next + 2) = some (.cells (.list [.bool true]) false) := by rw [DS.rid_get_ne (by omega)]; exact r6
    simp (maxSteps := 4000000) only [W_some, dread, ev_tmp, Option.getD_some, dresults, tupled, Cells.get, getN, k6, m6]
    exact hQ _ ⟨rfl, X5.trans (Ext.rid (F := [S1.next]) (.inl (by simp))) (by simp; omega)⟩
  refine W.mono (chg_iter hF hO hH (d := d) (c := s.next + 3) (J := CgJ U (S1.next + 1) (U.next + 1) s.next tt (keysM M)) (Stop := CgS U (S1.next + 1) s.next tt) cx.ok hl hGU uc cU.go cU.gm (fun i S hj => ?_) (fun i k x S hk hx hxk hj => ?_) (fun S X hGS hks hqn => ?_)) ?_
  · obtain ⟨_, X, gy', hks, hqn⟩ := hj
    exact ⟨X.keep cU.go (by simp; omega), X.keep cU.gm (by simp; omega), X.keep uc (by simp; omega), hks⟩
  · exact chgStep hF hI hO hH hN hQf cx.ok hC hm hGU t4 t5 t6 t8 u4 u5 u6 hslU (by omega) hvl (by omega) (by omega) (by omega) wU hk hx hxk hj
  · exact ⟨X.keep u8 (by simp), X.weaken (by simp), by rw [X.keep gy (by simp), hO1'], hks, fun h => hqn h⟩
  rintro ⟨v3, s3⟩ (hj | hj)
  · obtain ⟨gn, X3, gy3, _, _⟩ := hj
    simp only at gn X3 gy3
    refine contF_ap (gy3.trans rfl) (.inl rfl) (X3.wrs (wU _ (by omega))) ?_
    generalize hOE : DObj.loop .exhausted .normal _ _ _ _ = OE
    have X4 : Ext [S1.next + 1] s3 (s3.upd (S1.next + 1) OE) := Ext.upd (.inl (by simp))
    obtain ⟨S4, hS4⟩ : ∃ S4 : DS, S4 = s3.upd (S1.next + 1) OE := ⟨_, rfl⟩
    rw [← hS4] at X4 ⊢
    clear hS4
    have r4 := X4.keep (X3.keep u4 (by simp; omega)) (by simp; omega)
    have r6 := X4.keep (X3.keep u6 (by simp; omega)) (by simp; omega)
    have rn := X4.keep gn (by simp; omega)
    have rd := X4.keep (X3.keep gd (by simp; omega)) (by simp)
    have hw4 : ∀ j, S4.wr (s.next + j) = true := fun j => X4.wrs (X3.wrs (wU _ (by omega)))
    rw [hkl, ← hCl] at rn
    rw [hvs] at r4
    have hq : ((C.length : Int) = (C.length : Int)) = True := eq_true rfl
    simp (maxSteps := 4000000) only [WC_seq, WC_region, WC_ret, contS_normal, contB_normal, contR_ap, WO_nil, WO_pp, contO_ap, atS_ap, atD_ap, W_some, W_bin, W_blenL, W_ld, W_st, dpure, dbin, dint, ev_tmp, putT_some, putT_none, get_put_eq, get_put_ne, Nat.reduceEqDiff, not_false_eq_true, Option.getD_some, ldV_at, Cells.get, getN, Nat.zero_add, st_wr, cells_bool, List.length_cons, List.length_nil, allOne, oneCellD, Bool.and_self, Bool.and_true, Nat.beq_eq, Nat.ble_eq, Nat.le_refl, if_true, DS.wrC, Cells.size, Cells.fillFrom, Cells.set, setN, decide_true, r4, r6, rn, hw4, hq]
    refine hres _ _ (by simp (maxSteps := 4000000) only [get_put_eq, get_put_ne, Nat.reduceEqDiff, not_false_eq_true]) ?_ ?_ ?_ ?_
    · rw [DS.upd_get_ne (by omega)]; exact rd
    · rw [DS.upd_wr]; exact X4.wrs (X3.wrs (wU _ (by omega)))
    · rw [DS.upd_get_self, r6]; rfl
    · have y1 : Ext [s.next + 2] S4 (S4.upd (s.next + 2) (.cells (.list [.bool true]) false)) := Ext.upd (.inl (by simp))
      exact ((X0U.trans X3 (by simp; omega)).trans X4 (by simp; omega)).trans y1 (by simp)
  · obtain ⟨gr, X3, gy3⟩ := hj
    simp only at gr X3 gy3
    refine contF_ap gy3 (.inr rfl) (X3.wrs (wU _ (by omega))) ?_
    have X4 : Ext [S1.next + 1] s3 (s3.upd (S1.next + 1) (.loop .exhausted .ret tt [15] asgG bodyG)) := Ext.upd (.inl (by simp))
    simp (maxSteps := 4000000) only [contS_ret, contB_ret]
    exact hres _ _ (by simp (maxSteps := 4000000) only [get_put_eq, get_put_ne, Nat.reduceEqDiff, not_false_eq_true]) (X4.keep (X3.keep gd (by simp; omega)) (by simp)) (X4.wrs (X3.wrs (wU _ (by omega)))) (X4.keep gr (by simp; omega)) ((X0U.trans X3 (by simp; omega)).trans X4 (by simp; omega))
end
end Go.Dx.OvA
/- Is a store as it should be (made by tools/gen.py out of olk.t). -/
set_option linter.unusedVariables false
set_option linter.unusedSimpArgs false
set_option linter.unusedSectionVars false
set_option maxRecDepth 100000
set_option maxHeartbeats 4000000
namespace Go.Dx.OvA
open Go Go.Dx Go.Dx.Search Go.Dx.St Go.Proofs.Ytlpjlananbjgcaa
structure LkJ (U : DS) (y1 a : Nat) (tt : PT Value) (i : Nat) (S : DS) : Prop where
  gn : S.get (a + 3) = some (.cells (.list [.int .i64 (i : Int)]) false)
  xt : Ext [y1, a + 3] U S
  gy : S.get y1 = some (loopOb tt [33, 34] asgL bodyL)
section
variable {E : Env} (hF : Fns E) (hI : Its E) (hO : OvFns E) (hQf : CgFns E) {s : DS} {d : Nat} {p q : Nat} {kv vv w : Value} {L : List Ent} {room : Int}
include hF hI hO hQf
theorem looks_ok (c : StAt s p kv vv L room) (cr : RefS s q w L room) (hG : s.Good) (hlL : L.length ≤ 5000) (hpq : ∀ k, k ∈ own p kv vv → k ≠ q) :
    W (dcall E (d + 3) (.func (.func 26) #[] #[]) [.pointer (some ⟨p, 0, none⟩), .pointer (some ⟨q, 0, none⟩)] s) fun r => r.1 = .bool true ∧ Ext [] s r.2 := by
  have hlf := hF.lf
  have hcl := c.lt
  have hel := entV_len L
  have hql := DS.get_lt' cr.gq
  have hwl := cr.sl.lt
  refine W_cps fun Q hQ => ?_
  rw [W_enter0 hQf.iLk hQf.fLk rfl]
  have gq := cr.gq
  obtain ⟨wa, hws⟩ := cr.sl.shape
  rw [hel] at hws
  have gq' := gq
  rw [hws] at gq'
  obtain ⟨S1, hS1⟩ : ∃ S1 : DS, S1 = ((s.new (.cells (.list [.pointer (some ⟨q, 0, none⟩)]) false)).new (.cells (.list [.bool false]) false)).new (.cells (.list [.pointer (some ⟨p, 0, none⟩)]) false) := ⟨_, rfl⟩
  have X1 : Ext [] s S1 := by rw [hS1]; exact Ext.new.trans' (Ext.new.trans' Ext.new)
  have hG1 := X1.good hG
  have n1 : S1.next = s.next + 3 := by rw [hS1]; simp (maxSteps := 4000000) (maxDischargeDepth := 8) only [Nat.reduceAdd, nextN, Nat.add_assoc]
  have q3 : S1.get s.next = some (.cells (.list [.pointer (some ⟨q, 0, none⟩)]) false) := by rw [hS1]; simp (maxSteps := 4000000) (maxDischargeDepth := 8) only [Nat.reduceAdd, nextN, get_new_at, get_new_ne, good_new, lt_add_s, Nat.add_assoc, Nat.lt_add_one, Nat.succ_pos, hG]
  have q4 : S1.get (s.next + 1) = some (.cells (.list [.bool false]) false) := by rw [hS1]; simp (maxSteps := 4000000) (maxDischargeDepth := 8) only [Nat.reduceAdd, nextN, get_new_at, get_new_ne, good_new, Nat.add_assoc, Nat.lt_add_one, hG]
  have qc : S1.get (s.next + 2) = some (.cells (.list [.pointer (some ⟨p, 0, none⟩)]) false) := by rw [hS1]; simp (maxSteps := 4000000) (maxDischargeDepth := 8) only [Nat.reduceAdd, nextN, get_new_at, good_new, Nat.add_assoc, hG]
  have c1 := c.keep X1 (by simp)
  have cr1 := cr.keep X1 (by simp) (by simp)
  simp (maxSteps := 4000000) (maxDischargeDepth := 8) only [WC_seq, WC_region, contS_normal, contR_ap, WO_nil, WO_pp, WO_pn, WO_g, WO_hn, gateO_ff, contO_ap, contN_ap, atS_ap, atB_ap, W_some, W_mv, W_eq1, W_nilck, W_fadr, W_blenL, W_ld, W_alloc, W_box, W_call, dpure, eqOne, ev_tmp, ev_const, ev_func, putT_some, get_put_eq, get_put_ne, not_false_eq_true, ofList_get, List.getElem?_cons_zero, List.getElem?_cons_succ, Option.getD_some, List.map_cons, List.map_nil, ldV_at, Cells.get, getN, Nat.reduceAdd, cells_ptr, if_false, Bool.not_false, Bool.false_eq_true, List.nil_append, List.cons_append, pp, pv, pw, pg, nextN, Nat.add_zero, foot, get_new_at, get_new_ne, good_new, eq_lt, lt_add_r, lt_add_s, Nat.add_assoc, Nat.reduceLT, Nat.lt_add_one, Nat.succ_pos, d26, hG, All_ok hI, hql, gq']
  rw [← hS1]
  refine W.intro (Len_ok hF (d := d + 1) (c1.mask fun k hk => ?_)) ?_
  · have h1 := hcl k hk
    have h2 := hpq k hk
    exact ⟨by (simp only [hidden, shielded, noteAt, memN, Bool.or_false, Bool.or_eq_false_iff, Bool.and_eq_false_iff, bleF, bltF, beqF, true_and, and_true, true_or, or_true] <;> omega), by (simp only [hidden, shielded, noteAt, memN, Bool.or_false, Bool.or_eq_false_iff, Bool.and_eq_false_iff, bleF, bltF, beqF, true_and, and_true, true_or, or_true] <;> omega)⟩
  have gq1 := cr1.gq
  rw [hws] at gq1
  simp (maxSteps := 4000000) only [WO_pn, WO_g, WO_hn, gateO_ff, contN_ap, contHN_ap, atS_ap, W_some, W_mv, W_pick, W_bin, W_nilck, W_fadr, W_ld, W_call, dpure, dbin, dint, ev_tmp, ev_const, ev_func, putT_some, get_put_eq, get_put_ne, Nat.reduceEqDiff, not_false_eq_true, ofList_get, List.getElem?_cons_zero, Option.getD_some, List.map_cons, List.map_nil, ldV_at, Cells.get, getN, Nat.zero_add, if_true, if_false, reduceCtorEq, Bool.not_true, Bool.false_eq_true, List.nil_append, List.cons_append, nextM, unmask_mask, decide_true, foot, q3, gq1]
  refine W.intro (room_ok hF hO (d := d + 1) (c1.mask fun k hk => ?_)) ?_
  · have h1 := hcl k hk
    have h2 := hpq k hk
    exact ⟨by (simp only [hidden, shielded, noteAt, memN, Bool.or_false, Bool.or_eq_false_iff, Bool.and_eq_false_iff, bleF, bltF, beqF, true_and, and_true, true_or, or_true] <;> omega), by (simp only [hidden, shielded, noteAt, memN, Bool.or_false, Bool.or_eq_false_iff, Bool.and_eq_false_iff, bleF, bltF, beqF, true_and, and_true, true_or, or_true] <;> omega)⟩
  simp (maxSteps := 4000000) (maxDischargeDepth := 8) only [WC_seq, WC_region, WC_cond, WC_block, WC_skip, contS_normal, contR_ap, WO_nil, WO_pp, WO_pn, WO_g, gateO_ff, condC_false, contO_ap, contN_ap, contHN_ap, atS_ap, atD_ap, W_some, W_mv, W_pick, W_bin, W_st, W_alloc, dpure, dbin, dint, ev_tmp, ev_const, putT_some, putT_none, get_put_eq, get_put_ne, not_false_eq_true, Option.getD_some, Nat.zero_add, st_wr, cells_int, List.length_cons, List.length_nil, allOne, oneCellD, Bool.and_self, Bool.and_true, Nat.beq_eq, Nat.ble_eq, Nat.le_refl, if_true, if_false, Bool.not_true, Bool.false_eq_true, DS.wrC, Cells.size, Cells.fillFrom, Cells.set, setN, List.nil_append, List.cons_append, wrN, nextM, unmask_mask, decide_true, foot, get_new_at, good_new, good_at, eq_lt, eq_gt, Nat.reduceLT, Nat.lt_add_one, hG1]
  obtain ⟨S2, hS2⟩ : ∃ S2 : DS, S2 = (S1.new (.cells (.list [.int .i64 0]) false)).upd S1.next (.cells (.list [.int .i64 0]) false) := ⟨_, rfl⟩
  rw [← hS2]
  have X2 : Ext [] S1 S2 := by rw [hS2]; exact (Ext.new (F := [])).trans (Ext.upd (F := [S1.next]) (.inl (by simp))) (by simp)
  have hG2 := X2.good hG1
  have n2 : S2.next = s.next + 4 := by rw [hS2]; simp (maxSteps := 4000000) (maxDischargeDepth := 8) only [Nat.reduceAdd, DS.upd_next, nextN, Nat.add_assoc, n1]
  have q6 : S2.get (s.next + 3) = some (.cells (.list [.int .i64 0]) false) := by rw [hS2, ← n1]; simp (maxSteps := 4000000) (maxDischargeDepth := 8) only [DS.upd_get_self, Option.map_some, get_new_at, hG1]
  clear hS2
  have X02 := X1.trans' X2
  refine WC_rf (by simp (maxSteps := 4000000) only [ev_tmp, get_put_eq, Option.getD_some]; rfl) ?_
  generalize hO1 : loopOb _ _ _ _ = O1
  obtain ⟨tt, hO1', t3, t4, t6⟩ : ∃ tt, O1 = loopOb tt [33, 34] asgL bodyL ∧ tt.get 3 = some (.pointer (some ⟨s.next, 0, none⟩)) ∧ tt.get 4 = some (.pointer (some ⟨s.next + 1, 0, none⟩)) ∧ tt.get 6 = some (.pointer (some ⟨s.next + 3, 0, none⟩)) := ⟨_, hO1.symm, by simp (maxSteps := 4000000) only [get_put_eq, get_put_ne, Nat.reduceEqDiff, not_false_eq_true], by simp (maxSteps := 4000000) only [get_put_eq, get_put_ne, Nat.reduceEqDiff, not_false_eq_true], by simp (maxSteps := 4000000) only [get_put_eq, get_put_ne, Nat.reduceEqDiff, not_false_eq_true, n1]⟩
  have XU : Ext [] S2 ((S2.new .dfr).new O1) := Ext.new.trans' Ext.new
  have hGU := XU.good hG2
  have gy : ((S2.new .dfr).new O1).get (S2.next + 1) = some O1 := by simp (maxSteps := 4000000) (maxDischargeDepth := 8) only [nextN, get_new_at, good_new, hG2]
  have gd : ((S2.new .dfr).new O1).get S2.next = some .dfr := by simp (maxSteps := 4000000) (maxDischargeDepth := 8) only [nextN, get_new_at, get_new_ne, good_new, Nat.lt_add_one, hG2]
  have nU : ((S2.new .dfr).new O1).next = S2.next + 2 := by simp (maxSteps := 4000000) (maxDischargeDepth := 8) only [Nat.reduceAdd, nextN, Nat.add_assoc]
  have X0U := X02.trans' XU
  obtain ⟨U, hU⟩ : ∃ U : DS, U = (S2.new .dfr).new O1 := ⟨_, rfl⟩
  rw [← hU] at XU hGU gy gd nU X0U ⊢
  clear hU
  have X1U := X2.trans' XU
  have wU : ∀ k, s.next ≤ k → U.wr k = true := fun k hk => X0U.wrs (hG k hk).2
  have u3 := X1U.keep q3 (by simp)
  have u4 := X1U.keep q4 (by simp)
  have uc := X1U.keep qc (by simp)
  have u6 := XU.keep q6 (by simp)
  have cU := c.keep X0U (by simp)
  have crU := cr.keep X0U (by simp) (by simp)
  have hno : ∀ k, k < s.next → k ∉ [S2.next + 1, s.next + 3] := fun k hk => by simp; omega
  refine W.mono (all_iter hI (d := d + 1) (p := p) (kv := kv) (vv := vv) (L := L) (room := room) (c := s.next + 2) (J := LkJ U (S2.next + 1) s.next tt) (Stop := fun _ => False) (fun i S hj => ?_) (fun i x S hx hj => ?_) ?_ (by omega)) ?_
  · exact ⟨cU.keep hj.xt (fun k hk => hno k (hcl k hk)), hj.xt.keep uc (by simp; omega)⟩
  · obtain ⟨gn, X, gyS⟩ := hj
    have hGS := X.good hGU
    have hil := (List.getElem?_eq_some_iff.1 hx).1
    have s3 := X.keep u3 (by simp; omega)
    have crS := crU.keep X (hno q hql) (fun k hk => hno k (hwl k hk))
    have gqS := crS.gq
    obtain ⟨b, sp, hwb, hsp, hgb, hww⟩ := crS.sl.at (fun e => by rw [e] at hel; simp at hel; omega)
    rw [hel] at hwb
    rw [hwb] at gqS
    have hbl : b < s.next := hwl b (by rw [hwb]; simp [blk])
    have hg0 := entV_get0 hx
    have hg1 := entV_get1 hx
    have hwS : ∀ k, s.next ≤ k → S.wr k = true := fun k hk => X.wrs (wU k hk)
    have hwn := hwS (s.next + 3) (by omega)
    have e1 : ¬ (L.length : Int) ≤ (i : Int) := by omega
    have w1 : dwrap .i64 ((i : Int) + 1) = ((i + 1 : Nat) : Int) := by rw [dwrap_in (by omega) (by omega)]; omega
    refine W_yield gyS rfl ?_
    simp (maxSteps := 4000000) only [WC_seq, WC_region, contS_normal, contR_ap, WO_nil, WO_pp, contO_ap, W_mv, ev_tmp, putT_some, get_put_eq, get_put_ne, Nat.reduceEqDiff, not_false_eq_true, Option.getD_some, pv, setParams_nil, setParams_cons, asgL]
    refine contY_ap gyS (hwS _ (by omega)) ?_
    obtain ⟨Sb, hSb⟩ : ∃ Sb : DS, Sb = S.upd (S2.next + 1) (.loop .busy .normal tt [33, 34] asgL bodyL) := ⟨_, rfl⟩
    have Xb : Ext [S2.next + 1] S Sb := by rw [hSb]; exact Ext.upd (.inl (by simp))
    have gby : Sb.get (S2.next + 1) = some (.loop .busy .normal tt [33, 34] asgL bodyL) := by rw [hSb, DS.upd_get_self, gyS]; rfl
    show WC _ _ _ bodyL ⟨_, S.upd (S2.next + 1) (.loop .busy .normal tt [33, 34] asgL bodyL), []⟩ _
    rw [← hSb]
    clear hSb
    have b3 := Xb.keep s3 (by simp; omega)
    have bn := Xb.keep gn (by simp; omega)
    have bq := Xb.keep gqS (by simp; omega)
    have bb := Xb.keep hgb (by simp; omega)
    have bw := Xb.wrs hwn
    have hx1 : (x.1 = x.1) = True := eq_true rfl
    have hx2 : (x.2 = x.2) = True := eq_true rfl
    simp (maxSteps := 4000000) only [WC_seq, WC_region, WC_cond, WC_block, WC_skip, contS_normal, contB_normal, contR_ap, WO_nil, WO_pp, WO_g, gateO_ff, condC_false, contO_ap, atS_ap, atD_ap, W_some, W_mv, W_pick, W_bin, W_nilck, W_fadr, W_ixL, W_blenL, W_ld, W_st, dpure, dbin, dint, ev_tmp, ev_const, putT_some, putT_none, get_put_eq, get_put_ne, Nat.reduceEqDiff, not_false_eq_true, Option.getD_some, ldV_at, Cells.get, getN, Nat.zero_add, st_wr, cells_int, List.length_cons, List.length_nil, allOne, oneCellD, Bool.and_self, Bool.and_true, Nat.beq_eq, Nat.ble_eq, Nat.blt_eq, Nat.le_refl, if_true, if_false, Bool.not_true, Bool.false_eq_true, DS.wrC, Cells.size, Cells.fillFrom, Cells.set, setN, pp, pv, pw, pg, Nat.add_zero, asIdx_cast, decide_true, decide_false, bodyL, t3, t4, t6, b3, bn, bq, bb, hil, e1, hg0, hg1, w1, bw, hx1, hx2]
    have X4 : Ext [s.next + 3] Sb (Sb.upd (s.next + 3) (.cells (.list [.int .i64 ((i + 1 : Nat) : Int)]) false)) := Ext.upd (.inl (by simp))
    have g4y := X4.keep gby (by simp; omega)
    refine contZ_ap g4y (X4.wrs (Xb.wrs (hwS _ (by omega)))) (.inl ⟨rfl, ?_⟩)
    have X6 : Ext [S2.next + 1] (Sb.upd (s.next + 3) (.cells (.list [.int .i64 ((i + 1 : Nat) : Int)]) false)) ((Sb.upd (s.next + 3) (.cells (.list [.int .i64 ((i + 1 : Nat) : Int)]) false)).upd (S2.next + 1) (.loop .ready .normal tt [33, 34] asgL bodyL)) := Ext.upd (.inl (by simp))
    refine ⟨X6.keep (by rw [DS.upd_get_self, bn]; rfl) (by simp; omega), ((X.trans' (Xb.weaken (by simp))).trans' (X4.weaken (by simp))).trans' (X6.weaken (by simp)), ?_⟩
    show (DS.upd _ (S2.next + 1) _).get (S2.next + 1) = _
    rw [DS.upd_get_self, g4y]; rfl
  · exact ⟨u6, .refl, by rw [gy, hO1']⟩
  rintro ⟨v3, s3⟩ h
  have hj := h.resolve_right id
  obtain ⟨gn, X3, gy3⟩ := hj
  simp only at gn X3 gy3
  refine contF_ap (gy3.trans rfl) (.inl rfl) (X3.wrs (wU _ (by omega))) ?_
  generalize hOE : DObj.loop .exhausted .normal _ _ _ _ = OE
  have X4 : Ext [S2.next + 1] s3 (s3.upd (S2.next + 1) OE) := Ext.upd (.inl (by simp))
  obtain ⟨S4, hS4⟩ : ∃ S4 : DS, S4 = s3.upd (S2.next + 1) OE := ⟨_, rfl⟩
  rw [← hS4] at X4 ⊢
  clear hS4
  have r3 := X4.keep (X3.keep u3 (by simp; omega)) (by simp; omega)
  have r4 := X4.keep (X3.keep u4 (by simp; omega)) (by simp; omega)
  have rn := X4.keep gn (by simp; omega)
  have rd := X4.keep (X3.keep gd (by simp; omega)) (by simp)
  have hw4 : ∀ j, S4.wr (s.next + j) = true := fun j => X4.wrs (X3.wrs (wU _ (by omega)))
  have rq := X4.keep ((crU.keep X3 (hno q hql) (fun k hk => hno k (hwl k hk))).gq) (by simp; omega)
  rw [hws] at rq
  have hqq : ((L.length : Int) = (L.length : Int)) = True := eq_true rfl
  simp (maxSteps := 4000000) only [WC_seq, WC_region, WC_ret, contS_normal, contB_normal, contR_ap, WO_nil, WO_pp, contO_ap, atS_ap, atD_ap, W_some, W_bin, W_nilck, W_fadr, W_blenL, W_ld, W_st, dpure, dbin, dint, ev_tmp, putT_some, putT_none, get_put_eq, get_put_ne, Nat.reduceEqDiff, not_false_eq_true, Option.getD_some, ldV_at, Cells.get, getN, Nat.zero_add, st_wr, cells_bool, List.length_cons, List.length_nil, allOne, oneCellD, Bool.and_self, Bool.and_true, Nat.beq_eq, Nat.ble_eq, Nat.le_refl, if_true, DS.wrC, Cells.size, Cells.fillFrom, Cells.set, setN, Nat.add_zero, decide_true, r3, r4, rn, rq, hw4, hqq, n1]
  rw [Ends_ret1 (by rw [DS.upd_get_ne (by omega)]; exact rd) (by rw [DS.upd_wr]; exact X4.wrs (X3.wrs (wU _ (by omega))))]
  have m4 : ((S4.upd (s.next + 1) (.cells (.list [.bool true]) false)).rid S2.next).get (s.next + 1) = some (.cells (.list [.bool true]) false) := by
    rw [DS.rid_get_ne (by omega), DS.upd_get_self, r4]; rfl
  simp (maxSteps := 4000000) only [W_some, dread, ev_tmp, get_put_eq, get_put_ne, Nat.reduceEqDiff, not_false_eq_true, Option.getD_some, dresults, tupled, Cells.get, getN, m4]
  refine hQ _ ⟨rfl, ?_⟩
  have y1 : Ext [s.next + 1, S2.next] S4 (S4.upd (s.next + 1) (.cells (.list [.bool true]) false)) := Ext.upd (.inl (by simp))
  have y2 : Ext [s.next + 1, S2.next] (S4.upd (s.next + 1) (.cells (.list [.bool true]) false)) ((S4.upd (s.next + 1) (.cells (.list [.bool true]) false)).rid S2.next) := Ext.rid (.inl (by simp))
  exact ((X0U.trans X3 (by simp; omega)).trans X4 (by simp; omega)).trans (y1.trans' y2) (by simp; omega)
end
end Go.Dx.OvA
/- OverlayDoes, at the evaluator's level (made by tools/gen.py out of odoes.t). -/
set_option linter.unusedVariables false
set_option linter.unusedSimpArgs false
set_option linter.unusedSectionVars false
set_option maxRecDepth 100000
set_option maxHeartbeats 4000000
namespace Go.Dx.OvA
open Go Go.Dx Go.Dx.Search Go.Dx.St Go.Proofs.Ytlpjlananbjgcaa
def restD : DCode := (.seq (.region [pv 110 9, pp 111 (.fadr 1 (tm 13)), pp 112 (.ld none (tm 111)), pp 113 (.call (.func 9) [.tmp 110, .tmp 112]), pv 109 113, pp 114 (.ext (tm 109) 0), pp 115 (.ext (tm 109) 1), pv 15 114, pv 16 115]) (.seq (.region [pv 117 11, pp 118 (.nilck (tm 117)), pp 119 (.fadr 1 (tm 118)), pp 120 (.ld none (tm 119)), pp 121 (.fadr 1 (tm 13)), pp 122 (.ld none (tm 121)), pp 123 (.call (.func 24) [.tmp 120, .tmp 122]), pv 116 123, pp 124 (.ext (tm 116) 0), pp 125 (.ext (tm 116) 1), pv 17 124, pv 18 125]) (.seq (.region [pv 127 9, pp 128 (.fadr 2 (tm 13)), pp 129 (.ld none (tm 128)), pp 130 (.call (.func 10) [.tmp 127, .tmp 129]), pv 126 130, pp 131 (.ext (tm 126) 0), pp 132 (.ext (tm 126) 1), pp 133 (.ext (tm 126) 2), pv 19 131, pv 20 132, pv 21 133]) (.seq (.region [pv 135 11, pp 136 (.nilck (tm 135)), pp 137 (.fadr 1 (tm 136)), pp 138 (.ld none (tm 137)), pp 139 (.fadr 2 (tm 13)), pp 140 (.ld none (tm 139)), pp 141 (.call (.func 25) [.tmp 138, .tmp 140]), pv 134 141, pp 142 (.ext (tm 134) 0), pp 143 (.ext (tm 134) 1), pp 144 (.ext (tm 134) 2), pv 22 142, pv 23 143, pv 24 144]) (.seq (.region [⟨some 145, .mv (tm 14), none, [], true⟩, ⟨some 146, .un .not (tm 145), none, [], true⟩, ⟨some 147, .mv (tm 146), none, [], true⟩, ⟨some 148, .mv (tm 15), some (147, false), [], true⟩, ⟨some 149, .mv (tm 17), some (147, false), [], true⟩, ⟨some 150, .bin .neq (tm 148) (tm 149), some (147, false), [], true⟩, ⟨some 151, .pick (tm 147) (.const (.bool true)) (tm 150), none, [], true⟩, ⟨some 152, .mv (tm 151), none, [], true⟩, ⟨some 153, .mv (tm 16), some (152, false), [], true⟩, ⟨some 154, .mv (tm 18), some (152, false), [], true⟩, ⟨some 155, .eq true (.one .bool) (tm 153) (tm 154), some (152, false), [], true⟩, ⟨some 156, .pick (tm 152) (.const (.bool true)) (tm 155), none, [], true⟩, ⟨some 157, .mv (tm 156), none, [], true⟩, ⟨some 158, .mv (tm 19), some (157, false), [], true⟩, ⟨some 159, .mv (tm 22), some (157, false), [], true⟩, ⟨some 160, .bin .neq (tm 158) (tm 159), some (157, false), [], true⟩, ⟨some 161, .pick (tm 157) (.const (.bool true)) (tm 160), none, [], true⟩, ⟨some 162, .mv (tm 161), none, [], true⟩, ⟨some 163, .mv (tm 20), some (162, false), [], true⟩, ⟨some 164, .mv (tm 23), some (162, false), [], true⟩, ⟨some 165, .bin .neq (tm 163) (tm 164), some (162, false), [], true⟩, ⟨some 166, .pick (tm 162) (.const (.bool true)) (tm 165), none, [], true⟩, ⟨some 167, .mv (tm 166), none, [], true⟩, ⟨some 168, .mv (tm 21), some (167, false), [], true⟩, ⟨some 169, .mv (tm 24), some (167, false), [], true⟩, ⟨some 170, .eq true (.one .bool) (tm 168) (tm 169), some (167, false), [], true⟩, ⟨some 171, .pick (tm 167) (.const (.bool true)) (tm 170), none, [], true⟩, ⟨some 172, .mv (tm 171), none, [], true⟩, ⟨some 173, .mv (tm 9), some (172, false), [], true⟩, ⟨some 175, .mv (tm 11), some (172, false), [], true⟩, ⟨some 176, .nilck (tm 175), some (172, false), [], true⟩, ⟨some 177, .fadr 1 (tm 176), some (172, false), [], true⟩, ⟨some 178, .ld none (tm 177), some (172, false), [], true⟩, ⟨some 179, .nilck (tm 178), some (172, false), [], true⟩, ⟨some 180, .fadr 0 (tm 179), some (172, false), [], true⟩, ⟨some 181, .ld none (tm 180), some (172, false), [], true⟩, ⟨some 182, .blenL (tm 181), some (172, false), [], true⟩, ⟨some 174, .call (.func 14) [.tmp 173], some (172, false), [32, 35], true⟩, ⟨some 183, .bin .neq (tm 174) (tm 182), some (172, false), [], true⟩, ⟨some 184, .pick (tm 172) (.const (.bool true)) (tm 183), none, [], true⟩, ⟨some 185, .mv (tm 184), none, [], true⟩, ⟨some 186, .mv (tm 9), some (185, false), [], true⟩, ⟨some 187, .mv (tm 11), some (185, false), [], true⟩, ⟨some 188, .nilck (tm 187), some (185, false), [], true⟩, ⟨some 189, .fadr 2 (tm 188), some (185, false), [], true⟩, ⟨some 190, .ld none (tm 189), some (185, false), [], true⟩, ⟨some 191, .call (.func 16) [.tmp 186, .tmp 190, .const (.int .i64 (-1))], some (185, false), [], true⟩, ⟨some 192, .un .not (tm 191), some (185, false), [], true⟩, ⟨some 193, .pick (tm 185) (.const (.bool true)) (tm 192), none, [], true⟩, ⟨some 194, .mv (tm 193), none, [], true⟩, ⟨some 195, .mv (tm 9), some (194, false), [], true⟩, ⟨some 196, .mv (tm 11), some (194, false), [], true⟩, ⟨some 197, .nilck (tm 196), some (194, false), [], true⟩, ⟨some 198, .fadr 2 (tm 197), some (194, false), [], true⟩, ⟨some 199, .ld none (tm 198), some (194, false), [], true⟩, ⟨some 200, .call (.func 16) [.tmp 195, .tmp 199, .const (.int .i64 1)], some (194, false), [], true⟩, ⟨some 201, .un .not (tm 200), some (194, false), [], true⟩, ⟨some 202, .pick (tm 194) (.const (.bool true)) (tm 201), none, [], true⟩, ⟨some 203, .mv (tm 202), none, [], true⟩, ⟨some 204, .mv (tm 7), some (203, false), [], true⟩, ⟨some 205, .mv (tm 8), some (203, false), [], true⟩, ⟨some 206, .call (.func 26) [.tmp 204, .tmp 205], some (203, false), [], true⟩, ⟨some 207, .un .not (tm 206), some (203, false), [], true⟩, ⟨some 208, .pick (tm 203) (.const (.bool true)) (tm 207), none, [], true⟩]) (.cond (tm 208) (.seq (.region [pp 6 (.mv (.const (.bool false)))]) (.ret)) (.skip)))))))
def d4x : DFunc := { ntmps := 209, results := [.tmp 6], body := .seq (.region [pp 6 (.mv (.const (.bool false)))]) (.seq (.region [pv 26 0, pv 27 1, pp 28 (.call (.func 17) [.tmp 26, .tmp 27]), pv 25 28, pp 29 (.ext (tm 25) 0), pp 30 (.ext (tm 25) 1), pv 7 29, pv 8 30]) (.seq (.seq (.region [pp 31 (.call (.func 11) []), pp 32 (.un .not (tm 31))]) (.cond (tm 32) (.seq (.region [pp 6 (.mv (.const (.bool false)))]) (.ret)) (.skip))) (.seq (.seq (.region [pv 33 7, pp 34 (.eq false (.one .ptr) (tm 33) (.const (.pointer none))), pv 35 34, pw 36 8 35 false, pg 37 (.eq false (.one .ptr) (tm 36) (.const (.pointer none))) 35 false, pp 38 (.pick (tm 35) (.const (.bool true)) (tm 37))]) (.cond (tm 38) (.seq (.region [pv 39 7, pp 40 (.eq false (.one .ptr) (tm 39) (.const (.pointer none))), pv 41 40, pw 42 8 41 true, pg 43 (.eq false (.one .ptr) (tm 42) (.const (.pointer none))) 41 true, pp 44 (.pick (tm 41) (tm 43) (.const (.bool false))), pv 6 44]) (.ret)) (.skip))) (.seq (.region [pv 46 7, pp 47 (.call (.func 18) [.tmp 46]), pv 45 47, pp 48 (.ext (tm 45) 0), pp 49 (.ext (tm 45) 1), pv 9 48, pv 10 49]) (.seq (.region [pv 50 8, pp 51 (.call (.func 19) [.tmp 50]), pv 11 51]) (.seq (.seq (.region [pv 52 10, pp 53 (.bin .neq (tm 52) (.const (.int .i64 0))), pv 54 53, pw 55 9 54 false, pg 56 (.eq false (.one .ptr) (tm 55) (.const (.pointer none))) 54 false, pp 57 (.pick (tm 54) (.const (.bool true)) (tm 56))]) (.cond (tm 57) (.seq (.region [pp 6 (.mv (.const (.bool false)))]) (.ret)) (.skip))) (.seq (.seq (.region [pp 12 (.mv (.const (.int .i64 0)))]) (.block 0 (.loop (.seq (.seq (.region [pv 58 12, pv 59 2, pp 60 (.blenL (tm 59)), pp 61 (.bin .lss (tm 58) (tm 60))]) (.cond (tm 61) (.skip) (.exit 0))) (.seq (.block 1 (.seq (.region [pv 64 2, pv 65 12, pp 66 (.ixL 3 (tm 64) (tm 65)), pp 67 (.ld (some 3) (tm 66)), pp 13 (.alloc [.int .i64 0, .int .i64 0, .int .i64 0]), ⟨none, .st 3 (tm 13) (tm 67), none, [], false⟩]) (.seq (.region [pp 14 (.mv (.const (.bool true)))]) (.seq (.seq (.region [pp 68 (.fadr 0 (tm 13)), pp 69 (.ld none (tm 68))]) (.block 2 (.seq (.region [pp 71 (.bin .eql (tm 69) (.const (.int .i64 1))), pv 70 71]) (.cond (tm 70) (.region [⟨some 72, .mv (tm 9), none, [], true⟩, ⟨some 73, .fadr 1 (tm 13), none, [], true⟩, ⟨some 74, .ld none (tm 73), none, [], true⟩, ⟨some 75, .fadr 2 (tm 13), none, [], true⟩, ⟨some 76, .ld none (tm 75), none, [], true⟩, ⟨some 78, .mv (tm 11), none, [], true⟩, ⟨some 79, .fadr 1 (tm 13), none, [], true⟩, ⟨some 80, .ld none (tm 79), none, [], true⟩, ⟨some 81, .fadr 2 (tm 13), none, [], true⟩, ⟨some 82, .ld none (tm 81), none, [], true⟩, ⟨some 77, .call (.func 12) [.tmp 72, .tmp 74, .tmp 76], none, [7, 9], true⟩, ⟨some 83, .call (.func 20) [.tmp 78, .tmp 80, .tmp 82], none, [], true⟩, ⟨some 84, .bin .eql (tm 77) (tm 83), none, [], true⟩, ⟨some 14, .mv (tm 84), none, [], true⟩]) (.seq (.region [pp 86 (.bin .eql (tm 69) (.const (.int .i64 2))), pv 85 86]) (.cond (tm 85) (.region [⟨some 87, .mv (tm 9), none, [], true⟩, ⟨some 88, .fadr 1 (tm 13), none, [], true⟩, ⟨some 89, .ld none (tm 88), none, [], true⟩, ⟨some 91, .mv (tm 11), none, [], true⟩, ⟨some 92, .fadr 1 (tm 13), none, [], true⟩, ⟨some 93, .ld none (tm 92), none, [], true⟩, ⟨some 90, .call (.func 13) [.tmp 87, .tmp 89], none, [5], true⟩, ⟨some 94, .call (.func 21) [.tmp 91, .tmp 93], none, [], true⟩, ⟨some 95, .eq false (.one .bool) (tm 90) (tm 94), none, [], true⟩, ⟨some 14, .mv (tm 95), none, [], true⟩]) (.seq (.region [pp 97 (.bin .eql (tm 69) (.const (.int .i64 3))), pv 96 97]) (.cond (tm 96) (.seq (.region [pv 98 9, pp 99 (.call (.func 15) [.tmp 98]), pp 100 (.bin .eql (tm 99) (.const (.int .i64 0))), pv 14 100]) (.region [pv 101 11, pp 102 (.call (.func 22) [.tmp 101])])) (.seq (.region [pp 104 (.bin .eql (tm 69) (.const (.int .i64 4))), pv 103 104]) (.cond (tm 103) (.seq (.region [pv 105 9, pp 106 (.call (.func 8) [.tmp 105])]) (.region [pv 107 11, pp 108 (.call (.func 23) [.tmp 107])])) (.skip))))))))))) restD)))) (.region [pv 62 12, pp 63 (.bin .add (tm 62) (.const (.int .i64 1))), pv 12 63])))))) (.seq (.region [pp 6 (.mv (.const (.bool true)))]) (.ret))))))))) }
theorem d4x_eq : d4 = d4x := rfl
/-- all that the law holds, at one time -/
structure DoesA (S : DS) (n0 o m p y q qn : Nat) (M : Chs) (clock : Nat) (kv vv v w wn : Value) (B T : List Ent) (C : List Chg) (room : Int) : Prop where
  ov : OvX S o m p M clock B T
  st : StAt S p kv vv B room
  ry : RY S y q qn v w wn B T C room
  ch : Ch4 M C
  rb : ∀ x, x ∈ B → I64 x.1
  rt : ∀ x, x ∈ T → I64 x.1
  lb : (B.length : Int) ≤ room
  lt : (T.length : Int) ≤ room
  s1 : ∀ k, k ∈ own p kv vv → k ≠ o ∧ k ≠ m ∧ k ∉ Go.Dx.OvA.ry y q qn v w wn ∧ n0 ≤ k
  s2 : o ∉ Go.Dx.OvA.ry y q qn v w wn ∧ m ∉ Go.Dx.OvA.ry y q qn v w wn ∧ n0 ≤ o ∧ n0 ≤ m
  s3 : ∀ k, k ∈ Go.Dx.OvA.ry y q qn v w wn → n0 ≤ k
theorem DoesA.keep {S S' : DS} {n0 o m p y q qn : Nat} {M : Chs} {clock : Nat} {kv vv v w wn : Value} {B T : List Ent} {C : List Chg} {room : Int} (c : DoesA S n0 o m p y q qn M clock kv vv v w wn B T C room) (X : Ext [] S S') : DoesA S' n0 o m p y q qn M clock kv vv v w wn B T C room :=
  ⟨c.ov.keep X (by simp) (by simp), c.st.keep X (by simp), c.ry.keep X (by simp), c.ch, c.rb, c.rt, c.lb, c.lt, c.s1, c.s2, c.s3⟩
section
variable {E : Env} (hF : Fns E) (hI : Its E) (hR : R3Fns E) (hBa : BaseFns E) (hO : OvFns E) (hH : ChFns E) (hN : NxFns E) (hR2 : R3Fns2 E) (h4 : R4Fns E) (hQf : CgFns E) {s : DS} {d : Nat}
include hF hI hR hBa hO hH hN hR2 h4 hQf
theorem doesTail {S : DS} {n0 o m p y q qn : Nat} {M : Chs} {clock : Nat} {kv vv v w wn : Value} {B T : List Ent} {C : List Chg} {room : Int} {t : PT Value} {g13 : Nat} {kind K V : Int} {KK : DExit → St → Prop}
    (c : DoesA S n0 o m p y q qn M clock kv vv v w wn B T C room) (hroom : room ≤ 4096) (hG : S.Good)
    (t7 : t.get 7 = some (.pointer (some ⟨p, 0, none⟩))) (t8 : t.get 8 = some (.pointer (some ⟨q, 0, none⟩))) (t9 : t.get 9 = some (.pointer (some ⟨o, 0, none⟩))) (t11 : t.get 11 = some (.pointer (some ⟨y, 0, none⟩))) (t13 : t.get 13 = some (.pointer (some ⟨g13, 0, none⟩))) (t14 : t.get 14 = some (.bool true))
    (gq : S.get g13 = some (.cells (.list [.int .i64 kind, .int .i64 K, .int .i64 V]) false))
    (hK : ∀ t' S', (∀ j, j ∈ [2, 7, 8, 9, 11, 12] → t'.get j = t.get j) → Ext [] S S' → KK .normal ⟨t', S', []⟩) :
    WC (dcall E (d + 13)) E.lf false restD ⟨t, S, []⟩ KK := by
  have hlf := hF.lf
  have hMl := c.ch.len c.ov.ok
  have hfew := c.ch.few c.st.so c.ov.sh
  have hlb := c.lb
  have hlt := c.lt
  have hbo : ∀ k, k ∈ own p kv vv → k ≠ o ∧ k ≠ m := fun k hk => ⟨(c.s1 k hk).1, (c.s1 k hk).2.1⟩
  simp (maxSteps := 4000000) only [WC_seq, WC_region, WO_pp, contO_ap, atS_ap, W_some, W_mv, W_fadr, W_ld, W_call, dpure, ev_tmp, ev_func, putT_some, get_put_eq, get_put_ne, Nat.reduceEqDiff, not_false_eq_true, Option.getD_some, List.map_cons, List.map_nil, ldV_at, Cells.get, getN, Nat.zero_add, pp, pv, restD, t9, t13, gq]
  refine W.mono (oget2_ok hF hO (d := d + 7) c.ov c.st hG K) ?_
  rintro ⟨v1, s1⟩ ⟨h1, X1⟩
  simp only at h1 X1
  subst h1
  have c1 := c.keep X1
  have hG1 := X1.good hG
  have gq1 := X1.keep gq (by simp)
  have gy1 := c1.ry.ya.gy
  have hrg := rget_ok hR hR2 (d := d + 11) (by omega) (by omega) c1.ry.rn K
  simp (maxSteps := 4000000) only [WC_seq, WC_region, contS_normal, contR_ap, WO_nil, WO_pp, contO_ap, atS_ap, W_some, W_mv, W_nilck, W_fadr, W_ext, W_ld, W_call, dpure, ev_tmp, ev_func, putT_some, get_put_eq, get_put_ne, Nat.reduceEqDiff, not_false_eq_true, Option.getD_some, List.map_cons, List.map_nil, ldV_at, Cells.get, getN, Nat.zero_add, t11, t13, gq1, gy1, hrg, t9]
  refine W.mono (onext_ok hF hI hO hH hN (d := d + 3) c1.ov c1.st hbo hG1 V c.rb (by omega)) ?_
  rintro ⟨v2, s2⟩ ⟨h2, X2⟩
  simp only at h2 X2
  subst h2
  have c2 := c1.keep X2
  have hG2 := X2.good hG1
  have gq2 := X2.keep gq1 (by simp)
  have gy2 := c2.ry.ya.gy
  have hrn := rnext_ok hR hR2 (d := d + 11) (by omega) (by omega) c2.ry.rn V
  obtain ⟨k1, u1, is1, hent, _⟩ := entCells (T[pos V T]?)
  rw [nextA_ent, hent] at hrn ⊢
  have gqn2 := c2.ry.rn.gq
  obtain ⟨a, hwn⟩ := c2.ry.rn.sl.shape
  rw [entV_len] at hwn
  rw [hwn] at gqn2
  simp (maxSteps := 4000000) only [WC_seq, WC_region, contS_normal, contR_ap, WO_nil, WO_pp, WO_pn, WO_g, WO_hn, gateO_ff, contO_ap, contN_ap, atS_ap, atB_ap, W_some, W_mv, W_pick, W_bin, W_eq1, W_un, W_nilck, W_fadr, W_ext, W_blenL, W_ld, W_call, dpure, dbin, dint, eqOne, ev_tmp, ev_const, ev_func, putT_some, get_put_eq, get_put_ne, Nat.reduceEqDiff, not_false_eq_true, Option.getD_some, List.map_cons, List.map_nil, ldV_at, Cells.get, getN, Nat.zero_add, if_true, if_false, Bool.not_true, Bool.false_eq_true, List.nil_append, List.cons_append, Nat.add_zero, decide_true, foot, t11, t13, gq2, gy2, hrn, t9, t14, gqn2, beq_self_eq_true, Bool.not_true]
  have hyo : ∀ k, k ∈ own p kv vv → ¬ k = y ∧ ¬ k = qn := fun k hk => by
    have h := (c.s1 k hk).2.2.1
    simp only [Go.Dx.OvA.ry, List.mem_cons, not_or] at h
    exact ⟨h.1, h.2.2.1⟩
  refine W.mono (olen_ok hF hO (d := d + 11) (go := by rw [mask_get (by (simp only [hidden, shielded, noteAt, memN, Bool.or_false, Bool.or_eq_false_iff, Bool.and_eq_false_iff, bleF, bltF, beqF, true_and, and_true, true_or, or_true] <;> omega))]; exact c2.ov.at'.go) (c2.st.mask fun k hk => ?_) hbo) ?_
  · have := hyo k hk
    exact ⟨by (simp only [hidden, shielded, noteAt, memN, Bool.or_false, Bool.or_eq_false_iff, Bool.and_eq_false_iff, bleF, bltF, beqF, true_and, and_true, true_or, or_true] <;> omega), by (simp only [hidden, shielded, noteAt, memN, Bool.or_false, Bool.or_eq_false_iff, Bool.and_eq_false_iff, bleF, bltF, beqF, true_and, and_true, true_or, or_true] <;> omega)⟩
  rintro ⟨v3, s3⟩ h3
  cases h3
  have w0 : dwrap .i64 ((B.length : Int) + ((T.length : Int) - (B.length : Int))) = (T.length : Int) := by rw [dwrap_in (by omega) (by omega)]; omega
  have hTT : ((T.length : Int) = (T.length : Int)) = True := eq_true rfl
  simp (maxSteps := 4000000) only [WO_pn, WO_g, gateO_ff, contN_ap, contHN_ap, atS_ap, W_some, W_mv, W_pick, W_bin, W_nilck, W_fadr, W_ld, W_call, dpure, dbin, dint, ev_tmp, ev_const, ev_func, putT_some, get_put_eq, get_put_ne, Nat.reduceEqDiff, not_false_eq_true, Option.getD_some, List.map_cons, List.map_nil, ldV_at, Cells.get, getN, Nat.zero_add, if_true, if_false, Bool.not_true, Bool.false_eq_true, List.nil_append, List.cons_append, nextM, unmask_mask, decide_true, foot, t11, t9, w0, gy2, hTT]
  refine W.mono (chgs_ok hF hI hO hH hN hQf (d := d + 10) c2.ov c2.ch c2.ry.ya.sl (.inl rfl) hG2 (by omega)) ?_
  rintro ⟨v4, s4⟩ ⟨h4', X4⟩
  simp only at h4' X4
  subst h4'
  have c4 := c2.keep X4
  have hG4 := X4.good hG2
  have gy4 := c4.ry.ya.gy
  simp (maxSteps := 4000000) only [WO_pn, WO_g, gateO_ff, contN_ap, atS_ap, W_some, W_mv, W_pick, W_un, W_nilck, W_fadr, W_ld, W_call, dpure, ev_tmp, ev_const, ev_func, putT_some, get_put_eq, get_put_ne, Nat.reduceEqDiff, not_false_eq_true, Option.getD_some, List.map_cons, List.map_nil, ldV_at, Cells.get, getN, Nat.zero_add, if_false, Bool.not_true, Bool.false_eq_true, List.nil_append, List.cons_append, foot, t11, t9, gy4]
  refine W.mono (chgs_ok hF hI hO hH hN hQf (d := d + 10) c4.ov c4.ch c4.ry.ya.sl (.inr rfl) hG4 (by omega)) ?_
  rintro ⟨v5, s5⟩ ⟨h5, X5⟩
  simp only at h5 X5
  subst h5
  have c5 := c4.keep X5
  have hG5 := X5.good hG4
  simp (maxSteps := 4000000) only [WO_pn, WO_g, gateO_ff, contN_ap, atS_ap, W_some, W_mv, W_pick, W_un, W_call, dpure, ev_tmp, ev_const, ev_func, putT_some, get_put_eq, get_put_ne, Nat.reduceEqDiff, not_false_eq_true, Option.getD_some, List.map_cons, List.map_nil, if_false, Bool.not_true, Bool.false_eq_true, List.nil_append, List.cons_append, foot, t7, t8]
  refine W.mono (looks_ok hF hI hO hQf (d := d + 10) c5.st c5.ry.rb hG5 (by omega) (fun k hk => ?_)) ?_
  · have h := (c.s1 k hk).2.2.1
    simp only [Go.Dx.OvA.ry, List.mem_cons, not_or] at h
    exact h.2.1
  rintro ⟨v6, s6⟩ ⟨h6, X6⟩
  simp only at h6 X6
  subst h6
  simp (maxSteps := 4000000) only [WC_cond, WC_skip, contS_normal, contR_ap, WO_nil, WO_pn, WO_g, gateO_ff, condC_false, contN_ap, atS_ap, W_some, W_pick, W_un, dpure, ev_tmp, ev_const, putT_some, get_put_eq, get_put_ne, Nat.reduceEqDiff, not_false_eq_true, Option.getD_some, if_false, Bool.not_true, Bool.false_eq_true, List.nil_append, List.cons_append, foot]
  refine hK _ _ (fun j hj => ?_) (X1.trans' (X2.trans' (X4.trans' (X5.trans' X6))))
  simp only [List.mem_cons, List.not_mem_nil, or_false] at hj
  rcases hj with rfl | rfl | rfl | rfl | rfl | rfl <;> simp (maxSteps := 4000000) only [get_put_ne, Nat.reduceEqDiff, not_false_eq_true]
end
theorem puR_ok (room : Int) (rows : List (List Value)) (hroom : 0 ≤ room) (hk : ∀ x, x ∈ rows → I64 (rowK x)) : ((puR room rows).length : Int) ≤ room ∧ ∀ x, x ∈ puR room rows → I64 x.1 := by
  unfold puR
  suffices h : ∀ (rows : List (List Value)) (L : List Ent), (∀ x, x ∈ rows → I64 (rowK x)) → Rise L → (L.length : Int) ≤ room → (∀ x, x ∈ L → I64 x.1) → ((rows.foldl (fun L x => putR (rowK x) (rowV x) L room) L).length : Int) ≤ room ∧ ∀ x, x ∈ rows.foldl (fun L x => putR (rowK x) (rowV x) L room) L → I64 x.1 from h rows [] hk .nil (by simpa using hroom) (fun _ h => (nomatch h))
  intro rows
  induction rows with
  | nil => exact fun L _ _ h1 h => ⟨h1, h⟩
  | cons x rows ih =>
    intro L hk hr hl h
    have h0 := hk x (List.mem_cons_self ..)
    have h12 : Rise (putR (rowK x) (rowV x) L room) ∧ ((putR (rowK x) (rowV x) L room).length : Int) ≤ room ∧ ∀ y, y ∈ putR (rowK x) (rowV x) L room → I64 y.1 := by
      unfold putR
      split
      · rename_i hi
        exact ⟨rise_put hr _ _, by rw [St.put_len, if_pos hi]; exact hl, put_range hr h h0⟩
      · split
        · exact ⟨hr, hl, h⟩
        · rename_i hi hf
          exact ⟨rise_put hr _ _, by rw [St.put_len, if_neg hi]; omega, put_range hr h h0⟩
    exact ih _ (fun y hy => hk y (List.mem_cons_of_mem _ hy)) h12.1 h12.2.1 h12.2.2
theorem putR_ok3 {k v : Int} {L : List Ent} {room : Int} (hr : Rise L) (hl : (L.length : Int) ≤ room) (h : ∀ x, x ∈ L → I64 x.1) (hk : I64 k) : ((putR k v L room).length : Int) ≤ room ∧ ∀ y, y ∈ putR k v L room → I64 y.1 := by
  unfold putR
  split
  · rename_i hi
    exact ⟨by rw [St.put_len, if_pos hi]; exact hl, put_range hr h hk⟩
  · split
    · exact ⟨hl, h⟩
    · rename_i hi hf
      exact ⟨by rw [St.put_len, if_neg hi]; omega, put_range hr h hk⟩
theorem row_I64 {l : List (List Value)} (hl : ∀ x, x ∈ l → FitK [.int .i64, .int .i64, .int .i64] x) {x : List Value} (hx : x ∈ l) : I64 (rowK x) := by
  have hfx := hl x hx
  obtain ⟨x0, r0, rfl, ⟨kind, rfl, _⟩, hf0⟩ := FitK.cons hfx
  obtain ⟨x1, r1, rfl, ⟨K, rfl, hK⟩, hf1⟩ := FitK.cons hf0
  show I64 K
  simp [Lit.wf, IntKind.min, IntKind.max, IntKind.signed, IntKind.bits] at hK
  exact ⟨by omega, by omega⟩
theorem row3l {s : DS} {v0 : Value} {l : List (List Value)} (hr : InRow s v0 l) (hl : ∀ x, x ∈ l → FitK [.int .i64, .int .i64, .int .i64] x) {i : Nat} (hi : i < l.length) :
    ∃ x vb vc, l[i]? = some x ∧ v0 = .slice (some ⟨vb, 0, none⟩) l.length vc ∧ s.get vb = some (.cells (.list l.flatten) true) ∧ ldA 3 (.pointer (some ⟨vb, i * 3, none⟩)) s = some (.agg ⟨[.int .i64 (numV (getN x 0)), .int .i64 (rowK x), .int .i64 (rowV x)]⟩) := by
  obtain ⟨x, hx⟩ : ∃ x, l[i]? = some x := ⟨l[i], List.getElem?_eq_getElem hi⟩
  have hfx := hl x (List.mem_of_getElem? hx)
  obtain ⟨x0, r0, rfl, ⟨kind, rfl, _⟩, hf0⟩ := FitK.cons hfx
  obtain ⟨x1, r1, rfl, ⟨K, rfl, hK⟩, hf1⟩ := FitK.cons hf0
  obtain ⟨x2, r2, rfl, ⟨V, rfl, hV⟩, hf2⟩ := FitK.cons hf1
  obtain rfl := FitK.nil hf2
  have hm3 : ∀ y, y ∈ l → y.length = 3 := fun y hy => FitK.length (hl y hy)
  rcases hr with ⟨_, rfl⟩ | ⟨vb, vc, rfl, hb⟩
  · simp at hx
  · have hlen : l.flatten.length = l.length * 3 := flatten_len hm3
    have hrd : s.read vb 0 (l.length * 3) = some l.flatten := by
      unfold DS.read
      rw [hb]
      simp only
      rw [take_list _ _ _ (by omega)]
      simp only [List.drop_zero]
      rw [List.take_of_length_le (by omega)]
    have h := row_read hrd hm3 hx
    rw [Nat.zero_add] at h
    refine ⟨_, vb, vc, hx, rfl, hb, ?_⟩
    unfold ldA
    simp only [h]
    rfl
section
variable {s s' s1 : DS} {o m b clock : Nat} {M : Chs} {B T : List Ent} {F : List Nat} {nt : List Note} {haz : List Nat}
theorem OvX.of (c : OvX s o m b M clock B T) (h : ∀ k, k = o ∨ k = m → s'.get k = s.get k ∧ s'.wr k = true) : OvX s' o m b M clock B T :=
  ⟨⟨(h o (.inl rfl)).1.trans c.at'.go, (h o (.inl rfl)).2, (h m (.inr rfl)).1.trans c.at'.gm, (h m (.inr rfl)).2, c.at'.ne, c.at'.ok⟩, c.ok, c.sh, c.lt, c.lb, c.so⟩
theorem OvX.masked (c : OvX s o m b M clock B T) (h : ∀ k, k = o ∨ k = m → hidden nt haz k = false ∧ shielded nt haz k = false) : OvX (mask s nt haz) o m b M clock B T :=
  c.of fun k hk => ⟨mask_get (h k hk).1, mask_wr (by rcases hk with rfl | rfl; exact c.at'.wo; exact c.at'.wm) (h k hk).1 (h k hk).2⟩
theorem OvX.unmask (c : OvX s1 o m b M clock B T) (X : Ext F (mask s nt haz) s1) (h : ∀ k, k = o ∨ k = m → hidden nt haz k = false ∧ s.wr k = true) : OvX (unmask s s1) o m b M clock B T :=
  c.of fun k hk => ⟨unmask_at (h k hk).1 X, (h k hk).2⟩
end
structure DoesI (s0 : DS) (o m p y q : Nat) (room : Int) (v2 : Value) (l : List (List Value)) (n : Nat) (x : St) : Prop where
  ex : ∃ (i qn : Nat) (M : Chs) (clock : Nat) (kv vv v w wn : Value) (B T : List Ent) (C : List Chg), n = l.length - i ∧ i ≤ l.length ∧ x.defers = [] ∧
    (x.t.get 2 = some v2 ∧ x.t.get 7 = some (.pointer (some ⟨p, 0, none⟩)) ∧ x.t.get 8 = some (.pointer (some ⟨q, 0, none⟩)) ∧ x.t.get 9 = some (.pointer (some ⟨o, 0, none⟩)) ∧ x.t.get 11 = some (.pointer (some ⟨y, 0, none⟩)) ∧ x.t.get 12 = some (.int .i64 (i : Int))) ∧
    DoesA x.s s0.next o m p y q qn M clock kv vv v w wn B T C room ∧ Ext [] s0 x.s
/-- what is owned by one is not by the other, also behind a step of the reference -/
theorem sepRy {S S1 : DS} {n0 o m p y q qn qn' : Nat} {kv vv v w wn v' w' wn' : Value} (ho : o < S.next) (hm : m < S.next) (hp : ∀ k, k ∈ own p kv vv → k < S.next) (hle : S.next ≤ S1.next) (hn : n0 ≤ S.next)
    (h1 : ∀ k, k ∈ own p kv vv → k ∉ ry y q qn v w wn) (h2 : o ∉ ry y q qn v w wn ∧ m ∉ ry y q qn v w wn) (h3 : ∀ k, k ∈ ry y q qn v w wn → n0 ≤ k)
    (hnew : ∀ j, j ∈ ry y q qn' v' w' wn' → j ∈ ry y q qn v w wn ∨ S1.next ≤ j) :
    (∀ k, k ∈ own p kv vv → k ∉ ry y q qn' v' w' wn') ∧ (o ∉ ry y q qn' v' w' wn' ∧ m ∉ ry y q qn' v' w' wn') ∧ ∀ k, k ∈ ry y q qn' v' w' wn' → n0 ≤ k := by
  refine ⟨fun k hk hk2 => ?_, ⟨fun hk2 => ?_, fun hk2 => ?_⟩, fun k hk => ?_⟩
  · rcases hnew k hk2 with h | h
    · exact h1 k hk h
    · have := hp k hk; omega
  · rcases hnew o hk2 with h | h
    · exact h2.1 h
    · omega
  · rcases hnew m hk2 with h | h
    · exact h2.2 h
    · omega
  · rcases hnew k hk with h | h
    · exact h3 k h
    · omega
section
variable {E : Env} (hF : Fns E) (hI : Its E) (hR : R3Fns E) (hBa : BaseFns E) (hO : OvFns E) (hH : ChFns E) (hN : NxFns E) (hR2 : R3Fns2 E) (h4 : R4Fns E) (hQf : CgFns E) {s : DS} {d : Nat}
include hF hI hR hBa hO hH hN hR2 h4 hQf
theorem base_bad {v0 : Value} {room : Int} (hG : s.Good) (hroom : ¬ (0 ≤ room ∧ room ≤ 4096)) : W (dcall E (d + 2) (.func (.func 17) #[] #[]) [.int .i64 room, v0] s) fun r => r = (.tuple ⟨[.pointer none, .pointer none]⟩, s) := by
  refine W_cps fun Q hQ => ?_
  rw [W_enter0 hBa.iBase hBa.fBase rfl]
  simp (maxSteps := 4000000) only [WC_seq, WC_region, contS_normal, contR_ap, WO_nil, WO_pp, contO_ap, W_mv, W_call, ev_tmp, ev_const, ev_func, putT_some, get_put_eq, get_put_ne, not_false_eq_true, ofList_get, List.getElem?_cons_zero, Option.getD_some, List.map_cons, List.map_nil, reduceCtorEq, pp, pv, pw, pg, d17]
  refine W.mono (New_ok hF (d := d) hG room) ?_
  rintro ⟨v1, s1⟩ ⟨_, h | ⟨_, h1, h2⟩⟩
  · exact absurd ⟨h.1, h.2.1⟩ hroom
  simp only at h1 h2
  subst h1 h2
  have hrn : dcall E (d + 1) (.func (.func 39) #[] #[]) [.int .i64 room] s1 = some (.tuple ⟨[.pointer none, .int .i64 1]⟩, s1) := by
    rw [← W_iff, W_enter0 hR.iNew hR.fNew rfl]
    by_cases h1 : room < 0
    · simp (maxSteps := 4000000) only [WC_seq, WC_region, WC_cond, WC_ret, contS_normal, contS_ret, contR_ap, WO_nil, WO_pp, WO_g, gateO_tf, condC_true, contO_ap, atS_ap, W_some, W_mv, W_pick, W_bin, dpure, dbin, dint, Ends_ret, ev_tmp, ev_const, putT_some, get_put_eq, get_put_ne, Nat.reduceEqDiff, not_false_eq_true, ofList_get, List.getElem?_cons_zero, Option.getD_some, dresults, tupled, if_true, if_false, reduceCtorEq, Bool.false_eq_true, List.nil_append, pp, pv, pw, pg, decide_true, d39, h1]
    · have h2 : room > 4096 := by omega
      simp (maxSteps := 4000000) only [WC_seq, WC_region, WC_cond, WC_ret, contS_normal, contS_ret, contR_ap, WO_nil, WO_pp, WO_g, gateO_ff, condC_true, contO_ap, atS_ap, W_some, W_mv, W_pick, W_bin, dpure, dbin, dint, Ends_ret, ev_tmp, ev_const, putT_some, get_put_eq, get_put_ne, Nat.reduceEqDiff, not_false_eq_true, ofList_get, List.getElem?_cons_zero, Option.getD_some, dresults, tupled, if_true, if_false, reduceCtorEq, Bool.false_eq_true, pp, pv, pw, pg, decide_true, decide_false, d39, h1, h2]
  simp (maxSteps := 4000000) only [WC_seq, WC_region, WC_cond, WC_ret, contS_normal, contS_ret, contR_ap, WO_nil, WO_pp, WO_g, gateO_tf, condC_true, contO_ap, atS_ap, W_some, W_mv, W_pick, W_bin, W_ext, W_call, dpure, dbin, dint, Ends_ret, ev_tmp, ev_const, ev_func, putT_some, get_put_eq, get_put_ne, Nat.reduceEqDiff, not_false_eq_true, ofList_get, List.getElem?_cons_zero, Option.getD_some, dresults, tupled, List.map_cons, List.map_nil, getN, if_true, if_false, reduceCtorEq, Bool.not_false, Bool.false_eq_true, List.nil_append, decide_false, Int.reduceEq, hrn]
  exact hQ _ rfl
theorem doesLaw (f4 : E.fn 4 = some d4x) (i4 : E.intr 4 = none) (h11 : E.intr 11 = some trueD) (hG : s.Good) {v1 v2 : Value} {room : Int} {l l2 : List (List Value)} (hr : InRow s v1 l) (hl : ∀ x, x ∈ l → FitK [.int .i64, .int .i64, .int .i64] x) (hr2 : InRow s v2 l2) (hl2 : ∀ x, x ∈ l2 → FitK [.int .i64, .int .i64, .int .i64] x) (hlf2 : l2.length < E.lf) (hmax : (l2.length : Int) ≤ 9223372036854775807) :
    W (dcall E (d + 14) (.func (.func 4) #[] #[]) [.int .i64 room, v1, v2] s) fun r => r.1 = .bool true := by
  have lv : ∀ dd s, dcall E (dd + 1) (.func (.func 11) #[] #[]) [] s = some (.bool true, s) := fun _ _ => intr_run h11 rfl
  have hlf := hF.lf
  rw [W_enter0 i4 f4 rfl]
  by_cases hroom : 0 ≤ room ∧ room ≤ 4096
  · obtain ⟨hr0, hr1⟩ := hroom
    simp (maxSteps := 4000000) only [WC_seq, WC_region, contS_normal, contR_ap, WO_nil, WO_pp, contO_ap, W_mv, W_call, ev_tmp, ev_const, ev_func, putT_some, get_put_eq, get_put_ne, Nat.reduceEqDiff, not_false_eq_true, ofList_get, List.getElem?_cons_zero, List.getElem?_cons_succ, Option.getD_some, List.map_cons, List.map_nil, reduceCtorEq, pp, pv, pw, pg, d4x]
    refine W.mono (Base_ok hF hR hBa (d := d + 6) hG ⟨hr0, hr1⟩ hr hl) ?_
    rintro ⟨r, s1⟩ ⟨p, q, kv, vv, w, hr', cb, crf, hA, hRw, X1⟩
    simp only at hr' cb crf X1
    subst hr'
    have hG1 := X1.good hG
    obtain ⟨hBl, hBr⟩ := puR_ok room (l.take 100) hr0 fun x hx => row_I64 hl (List.mem_of_mem_take hx)
    obtain ⟨B, hB0⟩ : ∃ B, B = puR room (l.take 100) := ⟨_, rfl⟩
    rw [← hB0] at cb crf hBl hBr
    clear hB0
    simp (maxSteps := 4000000) only [WC_seq, WC_region, WC_cond, WC_skip, contS_normal, contR_ap, WO_nil, WO_pp, WO_g, gateO_ff, condC_false, contO_ap, atS_ap, atB_ap, W_some, W_mv, W_pick, W_eq1, W_un, W_ext, W_call, dpure, eqOne, ev_tmp, ev_const, ev_func, putT_some, get_put_eq, get_put_ne, Nat.reduceEqDiff, not_false_eq_true, Option.getD_some, List.map_cons, List.map_nil, getN, if_false, Bool.not_true, Bool.not_false, Bool.false_eq_true, lv]
    refine W.mono (onew_ok hF hO (b := p) (d := d + 12) hG1) ?_
    rintro ⟨r, s3⟩ ⟨o, m, hr', co, X3, ho1, hm1⟩
    simp only at hr' co X3
    subst hr'
    have hG3 := X3.good hG1
    have cb3 := cb.keep X3 (by simp)
    have crf3 := crf.keep X3 (by simp) (by simp)
    simp (maxSteps := 4000000) only [WC_seq, WC_region, contS_normal, contR_ap, WO_nil, WO_pp, contO_ap, atS_ap, W_some, W_mv, W_ext, W_call, dpure, ev_tmp, ev_func, putT_some, get_put_eq, get_put_ne, Nat.reduceEqDiff, not_false_eq_true, Option.getD_some, List.map_cons, List.map_nil, getN]
    refine W.mono (ynew_ok hR hR2 h4 (d := d + 11) crf3 (by omega) hG3) ?_
    rintro ⟨r, s4⟩ ⟨y, qn, wn, hr', cry, X4, hrynew⟩
    simp only at hr' cry X4
    subst hr'
    have hG4 := X4.good hG3
    have hbl := cb.lt
    have hql := DS.get_lt' crf.gq
    have hwl := crf.sl.lt
    have hol := DS.get_lt' co.go
    have hml := DS.get_lt' co.gm
    have hX1 := X1.le
    have hX3 := X3.le
    have cb4 := cb3.keep X4 (by simp)
    have hqw : ∀ k, k ∈ q :: blk w → k < s1.next := fun k hk => by
      rcases List.mem_cons.1 hk with rfl | hk
      · exact hql
      · exact hwl k hk
    have cx4 : OvX s4 o m p [] 0 B B := ⟨by rw [Int.sub_self]; exact co.keep X4 (by simp) (by simp), .nil, Shows.nil cb4.so, by omega, by omega, cb4.so⟩
    have cA : DoesA s4 s.next o m p y q qn [] 0 kv vv (.slice none 0 0) w wn B B [] room := by
      refine ⟨cx4, cb4, cry, Ch4.nil, hBr, hBr, hBl, hBl, fun k hk => ?_, ?_, fun k hk => ?_⟩
      · have h1 := hbl k hk
        have h2 := hA k hk
        refine ⟨by omega, by omega, fun h => ?_, h2.2.2⟩
        rcases hrynew k h with h | h
        · rcases List.mem_cons.1 h with h | h
          · exact h2.1 h
          · exact h2.2.1 h
        · omega
      · refine ⟨fun h => ?_, fun h => ?_, by omega, by omega⟩
        · rcases hrynew o h with h | h
          · have := hqw o h; omega
          · omega
        · rcases hrynew m h with h | h
          · have := hqw m h; omega
          · omega
      · rcases hrynew k hk with h | h
        · exact hRw k h
        · omega
    have X04 : Ext [] s s4 := X1.trans' (X3.trans' X4)
    simp (maxSteps := 4000000) only [WC_seq, WC_region, WC_cond, WC_block, WC_skip, contS_normal, contR_ap, WO_nil, WO_pp, WO_g, gateO_ff, condC_false, contO_ap, atS_ap, atB_ap, W_some, W_mv, W_pick, W_bin, W_eq1, dpure, dbin, dint, eqOne, ev_tmp, ev_const, putT_some, get_put_eq, get_put_ne, Nat.reduceEqDiff, not_false_eq_true, Option.getD_some, if_true, if_false, Bool.not_true, Bool.not_false, Bool.false_eq_true, decide_true]
    refine WC_loop (DoesI s o m p y q room v2 l2) l2.length hlf2 ⟨0, qn, [], 0, kv, vv, .slice none 0 0, w, wn, B, B, [], rfl, Nat.zero_le _, rfl, ?_, cA, X04⟩ ?_
    · simp (maxSteps := 4000000) only [get_put_eq, get_put_ne, Nat.reduceEqDiff, not_false_eq_true, ofList_get, List.getElem?_cons_zero, List.getElem?_cons_succ, Bool.true_and, true_and]
      rfl
    clear cA cx4 cb4 cry hrynew
    rintro n ⟨tt, S, ds⟩ hn ⟨i, qn, M, clock, kv, vv, v, w, wn, B, T, C, rfl, hi, hds, ⟨g2, g7, g8, g9, g11, g12⟩, cS, XS⟩
    simp only at hds g2 g7 g8 g9 g11 g12 cS XS
    subst hds
    have hGS := XS.good hG
    have hrS := InRow.keep hr2 XS (by simp)
    have hXS := XS.le
    by_cases c1 : i < l2.length
    · have e1 : (i : Int) < (l2.length : Int) := by omega
      have w1 : dwrap .i64 ((i : Int) + 1) = ((i + 1 : Nat) : Int) := by rw [dwrap_in (by omega) (by omega)]; omega
      obtain ⟨x, vb, vc, hx, hv2, hb, hld⟩ := row3l hrS hl2 c1
      have hkI := row_I64 hl2 (List.mem_of_getElem? hx)
      obtain ⟨kind, hkind⟩ : ∃ kind, kind = numV (getN x 0) := ⟨_, rfl⟩
      obtain ⟨K, hK⟩ : ∃ K, K = rowK x := ⟨_, rfl⟩
      obtain ⟨V, hV⟩ : ∃ V, V = rowV x := ⟨_, rfl⟩
      rw [← hkind, ← hK, ← hV] at hld
      rw [← hK] at hkI
      rw [hv2] at g2
      obtain ⟨S1, hS1⟩ : ∃ S1 : DS, S1 = (S.new (.cells (.list [.int .i64 0, .int .i64 0, .int .i64 0]) false)).upd S.next (.cells (.list [.int .i64 kind, .int .i64 K, .int .i64 V]) false) := ⟨_, rfl⟩
      have XQ : Ext [] S S1 := by rw [hS1]; exact (Ext.new (F := [])).trans (Ext.upd (F := [S.next]) (.inl (by simp))) (by simp)
      have hGQ := XQ.good hGS
      have gq := (show S1.get S.next = some (.cells (.list [.int .i64 kind, .int .i64 K, .int .i64 V]) false) by rw [hS1]; simp (maxSteps := 4000000) (maxDischargeDepth := 8) only [DS.upd_get_self, Option.map_some, get_new_at, hGS])
      have nQ : S1.next = S.next + 1 := by rw [hS1]; simp (maxSteps := 4000000) (maxDischargeDepth := 8) only [DS.upd_next, nextN]
      have cQ := cS.keep XQ
      have hpl := cS.st.lt
      have hryl := cS.ry.lt
      have hol := DS.get_lt' cS.ov.at'.go
      have hml := DS.get_lt' cS.ov.at'.gm
      have hlb := cS.lb
      have hlt := cS.lt
      have hfew := cS.ch.few cS.st.so cS.ov.sh
      have hMl := cS.ch.len cS.ov.ok
      have hbo : ∀ k, k ∈ own p kv vv → k ≠ o ∧ k ≠ m := fun k hk => ⟨(cS.s1 k hk).1, (cS.s1 k hk).2.1⟩
      have hfin : ∀ (S5 : DS) (qn' : Nat) (M' : Chs) (clock' : Nat) (kv' vv' v' w' wn' : Value) (B' T' : List Ent) (C' : List Chg) (t5 : PT Value), DoesA S5 s.next o m p y q qn' M' clock' kv' vv' v' w' wn' B' T' C' room → Ext [] s S5 → (t5.get 2 = some v2 ∧ t5.get 7 = some (.pointer (some ⟨p, 0, none⟩)) ∧ t5.get 8 = some (.pointer (some ⟨q, 0, none⟩)) ∧ t5.get 9 = some (.pointer (some ⟨o, 0, none⟩)) ∧ t5.get 11 = some (.pointer (some ⟨y, 0, none⟩)) ∧ t5.get 12 = some (.int .i64 ((i + 1 : Nat) : Int))) → ∃ m', m' < l2.length - i ∧ DoesI s o m p y q room v2 l2 m' ⟨t5, S5, []⟩ :=
        fun S5 qn' M' clock' kv' vv' v' w' wn' B' T' C' t5 cA X hh => ⟨l2.length - (i + 1), by omega, ⟨i + 1, qn', M', clock', kv', vv', v', w', wn', B', T', C', rfl, by omega, rfl, hh, cA, X⟩⟩
      have hyS := hryl y (by simp [ry])
      have hqnS := hryl qn (by simp [ry])
      have hqS := hryl q (by simp [ry])
      have hoy : o ≠ y ∧ o ≠ q ∧ o ≠ qn := by
        have := cS.s2.1
        simp only [ry, List.mem_cons, not_or] at this
        exact ⟨this.1, this.2.1, this.2.2.1⟩
      have hmy : m ≠ y ∧ m ≠ q ∧ m ≠ qn := by
        have := cS.s2.2.1
        simp only [ry, List.mem_cons, not_or] at this
        exact ⟨this.1, this.2.1, this.2.2.1⟩
      have hpy : ∀ k, k ∈ own p kv vv → k ≠ y ∧ k ≠ q ∧ k ≠ qn := fun k hk => by
        have := (cS.s1 k hk).2.2.1
        simp only [ry, List.mem_cons, not_or] at this
        exact ⟨this.1, this.2.1, this.2.2.1⟩
      by_cases k1 : kind = 1
      · simp (maxSteps := 4000000) (maxDischargeDepth := 8) only [WC_seq, WC_region, WC_cond, WC_block, WC_skip, contS_normal, contR_ap, WO_nil, WO_pp, WO_pn, WO_hn, condC_true, contO_ap, contN_ap, atS_ap, atD_ap, W_some, W_mv, W_bin, W_fadr, W_ixL, W_blenL, W_ld, W_st, W_alloc, W_call, dpure, dbin, dint, ev_tmp, ev_const, ev_func, putT_some, putT_none, get_put_eq, get_put_ne, not_false_eq_true, Option.getD_some, List.map_cons, List.map_nil, ldV_at, Cells.get, getN, Nat.zero_add, Nat.reduceAdd, st_wr, cells_agg, List.length_cons, List.length_nil, allOne, oneCellD, Bool.and_self, Bool.and_true, Nat.beq_eq, Nat.ble_eq, Nat.blt_eq, Nat.le_refl, if_true, DS.wrC, Cells.size, Cells.fillFrom, Cells.set, setN, List.nil_append, List.cons_append, DS.upd_get_self, DS.upd_next, Option.map_some, nextN, wrN, W_ldA, Nat.add_zero, asIdx_cast, decide_true, foot, get_new_at, good_new, good_at, eq_lt, eq_gt, Nat.reduceLT, Nat.lt_add_one, g2, g7, g8, g9, g11, g12, e1, c1, hld, hGS, k1]
        rw [k1] at hS1 gq
        rw [← hS1]
        refine W.masked (hO.fr _) (oput2_ok hF hO (d := d + 6) (cQ.ov.masked fun k hk => ?_) (cQ.st.mask fun k hk => ?_) hbo (mask_good hGQ fun k hk => ?_) K V hkI (by omega)) ?_
        · have : ¬ k = S.next := by rcases hk with rfl | rfl <;> omega
          exact ⟨by (simp only [hidden, shielded, noteAt, memN, Bool.or_false, Bool.or_eq_false_iff, Bool.and_eq_false_iff, bleF, bltF, beqF, true_and, and_true, true_or, or_true] <;> omega), by (simp only [hidden, shielded, noteAt, memN, Bool.or_false, Bool.or_eq_false_iff, Bool.and_eq_false_iff, bleF, bltF, beqF, true_and, and_true, true_or, or_true] <;> omega)⟩
        · have := hpl k hk
          exact ⟨by (simp only [hidden, shielded, noteAt, memN, Bool.or_false, Bool.or_eq_false_iff, Bool.and_eq_false_iff, bleF, bltF, beqF, true_and, and_true, true_or, or_true] <;> omega), by (simp only [hidden, shielded, noteAt, memN, Bool.or_false, Bool.or_eq_false_iff, Bool.and_eq_false_iff, bleF, bltF, beqF, true_and, and_true, true_or, or_true] <;> omega)⟩
        · have : ¬ k = S.next := by omega
          exact ⟨by (simp only [hidden, shielded, noteAt, memN, Bool.or_false, Bool.or_eq_false_iff, Bool.and_eq_false_iff, bleF, bltF, beqF, true_and, and_true, true_or, or_true] <;> omega), by (simp only [hidden, shielded, noteAt, memN, Bool.or_false, Bool.or_eq_false_iff, Bool.and_eq_false_iff, bleF, bltF, beqF, true_and, and_true, true_or, or_true] <;> omega)⟩
        rintro v6 s6 ⟨h6, ⟨M6, clock6, cx6, hM6, hr61, hr62⟩, X6⟩ df
        simp only at h6 cx6 X6
        subst h6
        have X6' := Ext.unmask' X6 df
        have cx6' := cx6.unmask X6 (fun k hk => ⟨by rcases hk with rfl | rfl <;> (simp only [hidden, shielded, noteAt, memN, Bool.or_false, Bool.or_eq_false_iff, Bool.and_eq_false_iff, bleF, bltF, beqF, true_and, and_true, true_or, or_true] <;> omega), by rcases hk with rfl | rfl; exact cQ.ov.at'.wo; exact cQ.ov.at'.wm⟩)
        obtain ⟨S6, hS6⟩ : ∃ S6 : DS, S6 = unmask S1 s6 := ⟨_, rfl⟩
        have n6 : s6.next = S6.next := by rw [hS6]; rfl
        rw [← hS6] at X6' cx6'
        have hG6 := X6'.good hGQ
        have hle6 := X6'.le
        have cry6 := cQ.ry.keep X6' (fun k hk => by simp; exact ⟨fun e => cS.s2.1 (e ▸ hk), fun e => cS.s2.2.1 (e ▸ hk)⟩)
        have cb6 := cQ.st.keep X6' (fun k hk => by have := hbo k hk; simp; exact this)
        have gq6 := X6'.keep gq (by simp; omega)
        simp (maxSteps := 4000000) only [WO_pn, contHN_ap, W_call, ev_tmp, ev_func, putT_some, get_put_eq, get_put_ne, Nat.reduceEqDiff, not_false_eq_true, Option.getD_some, List.map_cons, List.map_nil, List.nil_append, List.cons_append, foot, ← hS6, n6, g11]
        refine W.mono (yput_ok hR hR2 h4 (d := d + 10) cry6 cQ.ch.so (by omega) (by omega) hG6 K V) ?_
        rintro ⟨v7, s7⟩ ⟨h7, v', wn', cry7, X7, hnew7⟩
        simp only at h7 cry7 X7
        subst h7
        have hGE := X7.good hG6
        have gqE := X7.keep gq6 (by simp; omega)
        have X0E : Ext [] s s7 := (XS.trans' XQ).trans ((X6'.weaken (by simp)).trans' (X7.weaken (G := [o, m, y, qn]) (by simp))) (by
          intro k hk
          simp only [List.mem_cons, List.not_mem_nil, or_false] at hk
          have a1 := cS.s2.2.2
          have a2 := cS.s3 y (by simp [ry])
          have a3 := cS.s3 qn (by simp [ry])
          rcases hk with rfl | rfl | rfl | rfl
          · exact .inr a1.1
          · exact .inr a1.2
          · exact .inr a2
          · exact .inr a3)
        obtain ⟨sp1, sp2, sp3⟩ := sepRy (n0 := s.next) hol hml hpl (by omega : S.next ≤ S6.next) hXS (fun k hk => (cS.s1 k hk).2.2.1) ⟨cS.s2.1, cS.s2.2.1⟩ cS.s3 hnew7
        have hT3 := putR_ok3 (v := V) cQ.ov.sh.so cQ.lt cQ.rt hkI
        have hch : Ch4 M6 (putC K V T room C) := by
          unfold putC
          by_cases hz : putE K T room = 0
          · rw [if_pos hz]; exact cQ.ch.put (c := (K, V, false)) (hr61 hz)
          · rw [if_neg hz, hr62 hz]; exact cQ.ch
        have cA : DoesA s7 s.next o m p y q qn M6 clock6 kv vv v' w wn' B (putR K V T room) (putC K V T room C) room :=
          ⟨cx6'.keep X7 (by simp; exact ⟨hoy.1, hoy.2.2⟩) (by simp; exact ⟨hmy.1, hmy.2.2⟩), cb6.keep X7 (fun k hk => by have := hpy k hk; simp; exact ⟨this.1, this.2.2⟩), cry7, hch, cQ.rb, hT3.2, cQ.lb, hT3.1, fun k hk => ⟨(hbo k hk).1, (hbo k hk).2, sp1 k hk, (cS.s1 k hk).2.2.2⟩, ⟨sp2.1, sp2.2, cS.s2.2.2.1, cS.s2.2.2.2⟩, sp3⟩
        have hPE : (putE K T room = putE K T room) = True := eq_true rfl
        simp (maxSteps := 4000000) only [contS_normal, contB_normal, contR_ap, WO_nil, WO_pn, contN_ap, atS_ap, W_some, W_mv, W_bin, dbin, dint, ev_tmp, putT_some, get_put_eq, get_put_ne, Nat.reduceEqDiff, not_false_eq_true, Option.getD_some, if_true, List.nil_append, List.cons_append, decide_true, foot, hPE]
        refine doesTail hF hI hR hBa hO hH hN hR2 h4 hQf (d := d) cA hr1 hGE (by simp (maxSteps := 4000000) only [get_put_ne, Nat.reduceEqDiff, not_false_eq_true, g7]) (by simp (maxSteps := 4000000) only [get_put_ne, Nat.reduceEqDiff, not_false_eq_true, g8]) (by simp (maxSteps := 4000000) only [get_put_ne, Nat.reduceEqDiff, not_false_eq_true, g9]) (by simp (maxSteps := 4000000) only [get_put_ne, Nat.reduceEqDiff, not_false_eq_true, g11]) (by simp (maxSteps := 4000000) only [get_put_eq, get_put_ne, Nat.reduceEqDiff, not_false_eq_true]) (by simp (maxSteps := 4000000) only [get_put_eq]) gqE (fun t' S' ht X' => ?_)
        have h2' : t'.get 2 = some v2 := by rw [ht 2 (by simp), hv2]; simp (maxSteps := 4000000) only [get_put_ne, Nat.reduceEqDiff, not_false_eq_true, g2]
        have h7' : t'.get 7 = some (.pointer (some ⟨p, 0, none⟩)) := by rw [ht 7 (by simp)]; simp (maxSteps := 4000000) only [get_put_ne, Nat.reduceEqDiff, not_false_eq_true, g7]
        have h8' : t'.get 8 = some (.pointer (some ⟨q, 0, none⟩)) := by rw [ht 8 (by simp)]; simp (maxSteps := 4000000) only [get_put_ne, Nat.reduceEqDiff, not_false_eq_true, g8]
        have h9' : t'.get 9 = some (.pointer (some ⟨o, 0, none⟩)) := by rw [ht 9 (by simp)]; simp (maxSteps := 4000000) only [get_put_ne, Nat.reduceEqDiff, not_false_eq_true, g9]
        have h11' : t'.get 11 = some (.pointer (some ⟨y, 0, none⟩)) := by rw [ht 11 (by simp)]; simp (maxSteps := 4000000) only [get_put_ne, Nat.reduceEqDiff, not_false_eq_true, g11]
        have h12' : t'.get 12 = some (.int .i64 (i : Int)) := by rw [ht 12 (by simp)]; simp (maxSteps := 4000000) only [get_put_ne, Nat.reduceEqDiff, not_false_eq_true, g12]
        simp (maxSteps := 4000000) only [WC_region, contS_normal, contB_normal, contR_ap, contL_normal, WO_nil, WO_pp, contO_ap, atS_ap, W_some, W_mv, W_bin, dbin, dint, ev_tmp, ev_const, putT_some, get_put_eq, Option.getD_some, if_true, h12', w1]
        exact hfin _ _ _ _ _ _ _ _ _ _ _ _ _ (cA.keep X') (X0E.trans' X') ⟨by simp (maxSteps := 4000000) only [get_put_ne, Nat.reduceEqDiff, not_false_eq_true, h2'], by simp (maxSteps := 4000000) only [get_put_ne, Nat.reduceEqDiff, not_false_eq_true, h7'], by simp (maxSteps := 4000000) only [get_put_ne, Nat.reduceEqDiff, not_false_eq_true, h8'], by simp (maxSteps := 4000000) only [get_put_ne, Nat.reduceEqDiff, not_false_eq_true, h9'], by simp (maxSteps := 4000000) only [get_put_ne, Nat.reduceEqDiff, not_false_eq_true, h11'], by simp (maxSteps := 4000000) only [get_put_eq]⟩
      · by_cases k2 : kind = 2
        · simp (maxSteps := 4000000) (maxDischargeDepth := 8) only [WC_seq, WC_region, WC_cond, WC_block, WC_skip, contS_normal, contR_ap, WO_nil, WO_pp, WO_pn, WO_hn, condC_true, condC_false, contO_ap, contN_ap, atS_ap, atD_ap, W_some, W_mv, W_bin, W_fadr, W_ixL, W_blenL, W_ld, W_st, W_alloc, W_call, dpure, dbin, dint, ev_tmp, ev_const, ev_func, putT_some, putT_none, get_put_eq, get_put_ne, not_false_eq_true, Option.getD_some, List.map_cons, List.map_nil, ldV_at, Cells.get, getN, Nat.zero_add, Nat.reduceAdd, st_wr, cells_agg, List.length_cons, List.length_nil, allOne, oneCellD, Bool.and_self, Bool.and_true, Nat.beq_eq, Nat.ble_eq, Nat.blt_eq, Nat.le_refl, if_true, DS.wrC, Cells.size, Cells.fillFrom, Cells.set, setN, List.nil_append, List.cons_append, DS.upd_get_self, DS.upd_next, Option.map_some, nextN, wrN, W_ldA, Nat.add_zero, asIdx_cast, decide_true, decide_false, Int.reduceEq, foot, get_new_at, good_new, good_at, eq_lt, eq_gt, Nat.reduceLT, Nat.lt_add_one, g2, g7, g8, g9, g11, g12, e1, c1, hld, hGS, k2]
          rw [k2] at hS1 gq
          rw [← hS1]
          refine W.masked (hO.fr _) (odel2_ok hF hO (d := d + 6) (cQ.ov.masked fun k hk => ?_) (cQ.st.mask fun k hk => ?_) hbo (mask_good hGQ fun k hk => ?_) K hkI) ?_
          · have : ¬ k = S.next := by rcases hk with rfl | rfl <;> omega
            exact ⟨by (simp only [hidden, shielded, noteAt, memN, Bool.or_false, Bool.or_eq_false_iff, Bool.and_eq_false_iff, bleF, bltF, beqF, true_and, and_true, true_or, or_true] <;> omega), by (simp only [hidden, shielded, noteAt, memN, Bool.or_false, Bool.or_eq_false_iff, Bool.and_eq_false_iff, bleF, bltF, beqF, true_and, and_true, true_or, or_true] <;> omega)⟩
          · have := hpl k hk
            exact ⟨by (simp only [hidden, shielded, noteAt, memN, Bool.or_false, Bool.or_eq_false_iff, Bool.and_eq_false_iff, bleF, bltF, beqF, true_and, and_true, true_or, or_true] <;> omega), by (simp only [hidden, shielded, noteAt, memN, Bool.or_false, Bool.or_eq_false_iff, Bool.and_eq_false_iff, bleF, bltF, beqF, true_and, and_true, true_or, or_true] <;> omega)⟩
          · have : ¬ k = S.next := by omega
            exact ⟨by (simp only [hidden, shielded, noteAt, memN, Bool.or_false, Bool.or_eq_false_iff, Bool.and_eq_false_iff, bleF, bltF, beqF, true_and, and_true, true_or, or_true] <;> omega), by (simp only [hidden, shielded, noteAt, memN, Bool.or_false, Bool.or_eq_false_iff, Bool.and_eq_false_iff, bleF, bltF, beqF, true_and, and_true, true_or, or_true] <;> omega)⟩
          rintro v6 s6 ⟨h6, ⟨M6, clock6, cx6, hM6, hr61, hr62, hr63⟩, X6⟩ df
          simp only at h6 cx6 X6
          subst h6
          have X6' := Ext.unmask' X6 df
          have cx6' := cx6.unmask X6 (fun k hk => ⟨by rcases hk with rfl | rfl <;> (simp only [hidden, shielded, noteAt, memN, Bool.or_false, Bool.or_eq_false_iff, Bool.and_eq_false_iff, bleF, bltF, beqF, true_and, and_true, true_or, or_true] <;> omega), by rcases hk with rfl | rfl; exact cQ.ov.at'.wo; exact cQ.ov.at'.wm⟩)
          obtain ⟨S6, hS6⟩ : ∃ S6 : DS, S6 = unmask S1 s6 := ⟨_, rfl⟩
          have n6 : s6.next = S6.next := by rw [hS6]; rfl
          rw [← hS6] at X6' cx6'
          have hG6 := X6'.good hGQ
          have hle6 := X6'.le
          have cry6 := cQ.ry.keep X6' (fun k hk => by simp; exact ⟨fun e => cS.s2.1 (e ▸ hk), fun e => cS.s2.2.1 (e ▸ hk)⟩)
          have cb6 := cQ.st.keep X6' (fun k hk => by have := hbo k hk; simp; exact this)
          have gq6 := X6'.keep gq (by simp; omega)
          simp (maxSteps := 4000000) only [WO_pn, contHN_ap, W_call, ev_tmp, ev_func, putT_some, get_put_eq, get_put_ne, Nat.reduceEqDiff, not_false_eq_true, Option.getD_some, List.map_cons, List.map_nil, List.nil_append, List.cons_append, foot, ← hS6, n6, g11]
          refine W.mono (ydel_ok hR hR2 h4 (d := d + 10) cry6 cQ.ch.so (by omega) (by omega) (by omega) hG6 K) ?_
          rintro ⟨v7, s7⟩ ⟨h7, v', wn', cry7, X7, hnew7⟩
          simp only at h7 cry7 X7
          subst h7
          have hGE := X7.good hG6
          have gqE := X7.keep gq6 (by simp; omega)
          have X0E : Ext [] s s7 := (XS.trans' XQ).trans ((X6'.weaken (by simp)).trans' (X7.weaken (G := [o, m, y, qn]) (by simp))) (by
            intro k hk
            simp only [List.mem_cons, List.not_mem_nil, or_false] at hk
            have a1 := cS.s2.2.2
            have a2 := cS.s3 y (by simp [ry])
            have a3 := cS.s3 qn (by simp [ry])
            rcases hk with rfl | rfl | rfl | rfl
            · exact .inr a1.1
            · exact .inr a1.2
            · exact .inr a2
            · exact .inr a3)
          obtain ⟨sp1, sp2, sp3⟩ := sepRy (n0 := s.next) hol hml hpl (by omega : S.next ≤ S6.next) hXS (fun k hk => (cS.s1 k hk).2.2.1) ⟨cS.s2.1, cS.s2.2.1⟩ cS.s3 hnew7
          have hdl := St.del_len (L := T) K
          have hTl : ((delL K T).length : Int) ≤ room := by split at hdl <;> omega
          have hTr : ∀ z, z ∈ delL K T → I64 z.1 := fun z hz => cQ.rt z (del_mem cQ.ov.sh.so K hz).1
          have hch : Ch4 M6 (delC' K B T C) := by
            unfold delC'
            cases hat : isAt K T with
            | false => simp only [Bool.false_eq_true, if_false]; rw [hr63 hat]; exact cQ.ch
            | true =>
              simp only [if_true]
              cases hab : isAt K B with
              | true => simp only [if_true]; exact cQ.ch.put (c := (K, 0, true)) (hr61 hat hab)
              | false => simp only [Bool.false_eq_true, if_false]; exact cQ.ch.un (hr62 hat hab)
          have cA : DoesA s7 s.next o m p y q qn M6 clock6 kv vv v' w wn' B (delL K T) (delC' K B T C) room :=
            ⟨cx6'.keep X7 (by simp; exact ⟨hoy.1, hoy.2.2⟩) (by simp; exact ⟨hmy.1, hmy.2.2⟩), cb6.keep X7 (fun k hk => by have := hpy k hk; simp; exact ⟨this.1, this.2.2⟩), cry7, hch, cQ.rb, hTr, cQ.lb, hTl, fun k hk => ⟨(hbo k hk).1, (hbo k hk).2, sp1 k hk, (cS.s1 k hk).2.2.2⟩, ⟨sp2.1, sp2.2, cS.s2.2.2.1, cS.s2.2.2.2⟩, sp3⟩
          simp (maxSteps := 4000000) only [contS_normal, contB_normal, contR_ap, WO_nil, WO_pn, contN_ap, atB_ap, W_some, W_mv, W_eq1, eqOne, ev_tmp, putT_some, get_put_eq, get_put_ne, Nat.reduceEqDiff, not_false_eq_true, Option.getD_some, if_false, Bool.not_true, Bool.false_eq_true, List.nil_append, List.cons_append, foot, beq_self_eq_true]
          refine doesTail hF hI hR hBa hO hH hN hR2 h4 hQf (d := d) cA hr1 hGE (by simp (maxSteps := 4000000) only [get_put_ne, Nat.reduceEqDiff, not_false_eq_true, g7]) (by simp (maxSteps := 4000000) only [get_put_ne, Nat.reduceEqDiff, not_false_eq_true, g8]) (by simp (maxSteps := 4000000) only [get_put_ne, Nat.reduceEqDiff, not_false_eq_true, g9]) (by simp (maxSteps := 4000000) only [get_put_ne, Nat.reduceEqDiff, not_false_eq_true, g11]) (by simp (maxSteps := 4000000) only [get_put_eq, get_put_ne, Nat.reduceEqDiff, not_false_eq_true]) (by simp (maxSteps := 4000000) only [get_put_eq]) gqE (fun t' S' ht X' => ?_)
          have h2' : t'.get 2 = some v2 := by rw [ht 2 (by simp), hv2]; simp (maxSteps := 4000000) only [get_put_ne, Nat.reduceEqDiff, not_false_eq_true, g2]
          have h7' : t'.get 7 = some (.pointer (some ⟨p, 0, none⟩)) := by rw [ht 7 (by simp)]; simp (maxSteps := 4000000) only [get_put_ne, Nat.reduceEqDiff, not_false_eq_true, g7]
          have h8' : t'.get 8 = some (.pointer (some ⟨q, 0, none⟩)) := by rw [ht 8 (by simp)]; simp (maxSteps := 4000000) only [get_put_ne, Nat.reduceEqDiff, not_false_eq_true, g8]
          have h9' : t'.get 9 = some (.pointer (some ⟨o, 0, none⟩)) := by rw [ht 9 (by simp)]; simp (maxSteps := 4000000) only [get_put_ne, Nat.reduceEqDiff, not_false_eq_true, g9]
          have h11' : t'.get 11 = some (.pointer (some ⟨y, 0, none⟩)) := by rw [ht 11 (by simp)]; simp (maxSteps := 4000000) only [get_put_ne, Nat.reduceEqDiff, not_false_eq_true, g11]
          have h12' : t'.get 12 = some (.int .i64 (i : Int)) := by rw [ht 12 (by simp)]; simp (maxSteps := 4000000) only [get_put_ne, Nat.reduceEqDiff, not_false_eq_true, g12]
          simp (maxSteps := 4000000) only [WC_region, contS_normal, contB_normal, contR_ap, contL_normal, WO_nil, WO_pp, contO_ap, atS_ap, W_some, W_mv, W_bin, dbin, dint, ev_tmp, ev_const, putT_some, get_put_eq, Option.getD_some, if_true, h12', w1]
          exact hfin _ _ _ _ _ _ _ _ _ _ _ _ _ (cA.keep X') (X0E.trans' X') ⟨by simp (maxSteps := 4000000) only [get_put_ne, Nat.reduceEqDiff, not_false_eq_true, h2'], by simp (maxSteps := 4000000) only [get_put_ne, Nat.reduceEqDiff, not_false_eq_true, h7'], by simp (maxSteps := 4000000) only [get_put_ne, Nat.reduceEqDiff, not_false_eq_true, h8'], by simp (maxSteps := 4000000) only [get_put_ne, Nat.reduceEqDiff, not_false_eq_true, h9'], by simp (maxSteps := 4000000) only [get_put_ne, Nat.reduceEqDiff, not_false_eq_true, h11'], by simp (maxSteps := 4000000) only [get_put_eq]⟩
        · by_cases k3 : kind = 3
          · simp (maxSteps := 4000000) (maxDischargeDepth := 8) only [WC_seq, WC_region, WC_cond, WC_block, WC_skip, contS_normal, contR_ap, WO_nil, WO_pp, condC_true, condC_false, contO_ap, atS_ap, atD_ap, W_some, W_mv, W_bin, W_fadr, W_ixL, W_blenL, W_ld, W_st, W_alloc, W_call, dpure, dbin, dint, ev_tmp, ev_const, ev_func, putT_some, putT_none, get_put_eq, get_put_ne, not_false_eq_true, Option.getD_some, List.map_cons, List.map_nil, ldV_at, Cells.get, getN, Nat.zero_add, Nat.reduceAdd, st_wr, cells_agg, List.length_cons, List.length_nil, allOne, oneCellD, Bool.and_self, Bool.and_true, Nat.beq_eq, Nat.ble_eq, Nat.blt_eq, Nat.le_refl, if_true, DS.wrC, Cells.size, Cells.fillFrom, Cells.set, setN, DS.upd_get_self, Option.map_some, wrN, W_ldA, Nat.add_zero, asIdx_cast, decide_true, decide_false, Int.reduceEq, get_new_at, good_new, good_at, eq_lt, eq_gt, Nat.reduceLT, Nat.lt_add_one, g2, g7, g8, g9, g11, g12, e1, c1, hld, hGS, k3]
            rw [k3] at hS1 gq
            rw [← hS1]
            refine W.mono (commit_ok hF hO hH (d := d + 4) cQ.ov cQ.st hbo hGQ (by omega) (by omega) (by omega)) ?_
            rintro ⟨v6, s6⟩ ⟨h6, cx6, kv6, vv6, cb6, X6, o6⟩
            simp only at h6 cx6 cb6 X6 o6
            subst h6
            have hG6 := X6.good hGQ
            have hle6 := X6.le
            have hpl6 := cb6.lt
            have cry6 := cQ.ry.keep X6 (fun k hk => by
              simp only [List.mem_cons, not_or]
              exact ⟨fun e => cS.s2.1 (e ▸ hk), fun e => cS.s2.2.1 (e ▸ hk), fun h => (cS.s1 k h).2.2.1 hk⟩)
            have gq6 := X6.keep gq (by
              simp only [List.mem_cons, not_or]
              exact ⟨by omega, by omega, fun h => by have := hpl _ h; omega⟩)
            have hown6 : ∀ k, k ∈ own p kv6 vv6 → k ≠ o ∧ k ≠ m ∧ k ∉ ry y q qn v w wn ∧ s.next ≤ k := fun k hk => by
              rcases o6 k hk with h | h
              · exact cS.s1 k h
              · exact ⟨by omega, by omega, fun h2 => by have := hryl k h2; omega, by omega⟩
            simp (maxSteps := 4000000) only [WC_region, contS_normal, contR_ap, WO_nil, WO_pp, contO_ap, atS_ap, W_some, W_mv, W_bin, W_call, dbin, dint, ev_tmp, ev_const, ev_func, putT_some, get_put_eq, get_put_ne, Nat.reduceEqDiff, not_false_eq_true, Option.getD_some, List.map_cons, List.map_nil, if_true, decide_true, g11]
            refine W.mono (ycommit_ok hR hR2 h4 (d := d + 11) cry6 (by omega) hG6) ?_
            rintro ⟨v7, s7⟩ ⟨h7, w', cry7, X7, hnew7⟩
            simp only at h7 cry7 X7
            subst h7
            have hGE := X7.good hG6
            have gqE := X7.keep gq6 (by simp; omega)
            have X0E : Ext [] s s7 := (XS.trans' XQ).trans ((X6.weaken (G := o :: m :: y :: q :: own p kv vv) (by intro k hk; simp only [List.mem_cons] at hk ⊢; rcases hk with h | h | h; exact .inl (.inl h); exact .inl (.inr (.inl h)); exact .inl (.inr (.inr (.inr (.inr h)))))).trans' (X7.weaken (G := o :: m :: y :: q :: own p kv vv) (by simp))) (by
              intro k hk
              simp only [List.mem_cons] at hk
              have a1 := cS.s2.2.2
              have a2 := cS.s3 y (by simp [ry])
              have a3 := cS.s3 q (by simp [ry])
              rcases hk with rfl | rfl | rfl | rfl | h
              · exact .inr a1.1
              · exact .inr a1.2
              · exact .inr a2
              · exact .inr a3
              · exact .inr (cS.s1 k h).2.2.2)
            obtain ⟨sp1, sp2, sp3⟩ := sepRy (n0 := s.next) (S := s6) (S1 := s6) (by omega) (by omega) hpl6 (Nat.le_refl _) (by omega) (fun k hk => (hown6 k hk).2.2.1) ⟨cS.s2.1, cS.s2.2.1⟩ cS.s3 hnew7
            have hpy6 : ∀ k, k ∈ own p kv6 vv6 → k ≠ y ∧ k ≠ q := fun k hk => by
              have := (hown6 k hk).2.2.1
              simp only [ry, List.mem_cons, not_or] at this
              exact ⟨this.1, this.2.1⟩
            have cA : DoesA s7 s.next o m p y q qn [] clock kv6 vv6 (.slice none 0 0) w' wn T T [] room :=
              ⟨cx6.keep X7 (by simp; exact ⟨hoy.1, hoy.2.1⟩) (by simp; exact ⟨hmy.1, hmy.2.1⟩), cb6.keep X7 (fun k hk => by have := hpy6 k hk; simp; exact this), cry7, Ch4.nil, cQ.rt, cQ.rt, cQ.lt, cQ.lt, fun k hk => ⟨(hown6 k hk).1, (hown6 k hk).2.1, sp1 k hk, (hown6 k hk).2.2.2⟩, ⟨sp2.1, sp2.2, cS.s2.2.2.1, cS.s2.2.2.2⟩, sp3⟩
            simp (maxSteps := 4000000) only [contS_normal, contB_normal, contR_ap, WO_nil, contO_ap, putT_some]
            refine doesTail hF hI hR hBa hO hH hN hR2 h4 hQf (d := d) cA hr1 hGE (by simp (maxSteps := 4000000) only [get_put_ne, Nat.reduceEqDiff, not_false_eq_true, g7]) (by simp (maxSteps := 4000000) only [get_put_ne, Nat.reduceEqDiff, not_false_eq_true, g8]) (by simp (maxSteps := 4000000) only [get_put_ne, Nat.reduceEqDiff, not_false_eq_true, g9]) (by simp (maxSteps := 4000000) only [get_put_ne, Nat.reduceEqDiff, not_false_eq_true, g11]) (by simp (maxSteps := 4000000) only [get_put_eq, get_put_ne, Nat.reduceEqDiff, not_false_eq_true]) (by simp (maxSteps := 4000000) only [get_put_eq, get_put_ne, Nat.reduceEqDiff, not_false_eq_true]) gqE (fun t' S' ht X' => ?_)
            have h2' : t'.get 2 = some v2 := by rw [ht 2 (by simp), hv2]; simp (maxSteps := 4000000) only [get_put_ne, Nat.reduceEqDiff, not_false_eq_true, g2]
            have h7' : t'.get 7 = some (.pointer (some ⟨p, 0, none⟩)) := by rw [ht 7 (by simp)]; simp (maxSteps := 4000000) only [get_put_ne, Nat.reduceEqDiff, not_false_eq_true, g7]
            have h8' : t'.get 8 = some (.pointer (some ⟨q, 0, none⟩)) := by rw [ht 8 (by simp)]; simp (maxSteps := 4000000) only [get_put_ne, Nat.reduceEqDiff, not_false_eq_true, g8]
            have h9' : t'.get 9 = some (.pointer (some ⟨o, 0, none⟩)) := by rw [ht 9 (by simp)]; simp (maxSteps := 4000000) only [get_put_ne, Nat.reduceEqDiff, not_false_eq_true, g9]
            have h11' : t'.get 11 = some (.pointer (some ⟨y, 0, none⟩)) := by rw [ht 11 (by simp)]; simp (maxSteps := 4000000) only [get_put_ne, Nat.reduceEqDiff, not_false_eq_true, g11]
            have h12' : t'.get 12 = some (.int .i64 (i : Int)) := by rw [ht 12 (by simp)]; simp (maxSteps := 4000000) only [get_put_ne, Nat.reduceEqDiff, not_false_eq_true, g12]
            simp (maxSteps := 4000000) only [WC_region, contS_normal, contB_normal, contR_ap, contL_normal, WO_nil, WO_pp, contO_ap, atS_ap, W_some, W_mv, W_bin, dbin, dint, ev_tmp, ev_const, putT_some, get_put_eq, Option.getD_some, if_true, h12', w1]
            exact hfin _ _ _ _ _ _ _ _ _ _ _ _ _ (cA.keep X') (X0E.trans' X') ⟨by simp (maxSteps := 4000000) only [get_put_ne, Nat.reduceEqDiff, not_false_eq_true, h2'], by simp (maxSteps := 4000000) only [get_put_ne, Nat.reduceEqDiff, not_false_eq_true, h7'], by simp (maxSteps := 4000000) only [get_put_ne, Nat.reduceEqDiff, not_false_eq_true, h8'], by simp (maxSteps := 4000000) only [get_put_ne, Nat.reduceEqDiff, not_false_eq_true, h9'], by simp (maxSteps := 4000000) only [get_put_ne, Nat.reduceEqDiff, not_false_eq_true, h11'], by simp (maxSteps := 4000000) only [get_put_eq]⟩
          · by_cases k4 : kind = 4
            · simp (maxSteps := 4000000) (maxDischargeDepth := 8) only [WC_seq, WC_region, WC_cond, WC_block, WC_skip, contS_normal, contR_ap, WO_nil, WO_pp, condC_true, condC_false, contO_ap, atS_ap, atD_ap, W_some, W_mv, W_bin, W_fadr, W_ixL, W_blenL, W_ld, W_st, W_alloc, W_call, dpure, dbin, dint, ev_tmp, ev_const, ev_func, putT_some, putT_none, get_put_eq, get_put_ne, not_false_eq_true, Option.getD_some, List.map_cons, List.map_nil, ldV_at, Cells.get, getN, Nat.zero_add, Nat.reduceAdd, st_wr, cells_agg, List.length_cons, List.length_nil, allOne, oneCellD, Bool.and_self, Bool.and_true, Nat.beq_eq, Nat.ble_eq, Nat.blt_eq, Nat.le_refl, if_true, DS.wrC, Cells.size, Cells.fillFrom, Cells.set, setN, DS.upd_get_self, Option.map_some, wrN, W_ldA, Nat.add_zero, asIdx_cast, decide_true, decide_false, Int.reduceEq, get_new_at, good_new, good_at, eq_lt, eq_gt, Nat.reduceLT, Nat.lt_add_one, g2, g7, g8, g9, g11, g12, e1, c1, hld, hGS, k4]
              rw [k4] at hS1 gq
              rw [← hS1]
              refine W.mono (odrop_ok hF hO (d := d + 11) cQ.ov.at') ?_
              rintro ⟨v6, s6⟩ ⟨h6, c6, X6⟩
              simp only at h6 c6 X6
              subst h6
              have hG6 := X6.good hGQ
              have hle6 := X6.le
              have cx6 : OvX s6 o m p [] clock B B := ⟨by rw [Int.sub_self]; exact c6, .nil, Shows.nil cQ.st.so, by omega, by omega, cQ.st.so⟩
              have cry6 := cQ.ry.keep X6 (fun k hk => by simp; exact ⟨fun e => cS.s2.1 (e ▸ hk), fun e => cS.s2.2.1 (e ▸ hk)⟩)
              have cb6 := cQ.st.keep X6 (fun k hk => by have := hbo k hk; simp; exact this)
              have gq6 := X6.keep gq (by simp; omega)
              simp (maxSteps := 4000000) only [WC_region, contS_normal, contR_ap, WO_nil, WO_pp, contO_ap, W_mv, W_call, ev_tmp, ev_func, putT_some, get_put_eq, get_put_ne, Nat.reduceEqDiff, not_false_eq_true, Option.getD_some, List.map_cons, List.map_nil, g11]
              refine W.mono (ydrop_ok hR hR2 h4 (d := d + 11) cry6 (by omega) hG6) ?_
              rintro ⟨v7, s7⟩ ⟨h7, qn', wn', cry7, X7, hnew7⟩
              simp only at h7 cry7 X7
              subst h7
              have hGE := X7.good hG6
              have gqE := X7.keep gq6 (by simp; omega)
              have a2 := cS.s3 y (by simp [ry])
              have X0E : Ext [] s s7 := (XS.trans' XQ).trans ((X6.weaken (by simp)).trans' (X7.weaken (G := [o, m, y]) (by simp))) (by have := cS.s2.2.2; simp; omega)
              obtain ⟨sp1, sp2, sp3⟩ := sepRy (n0 := s.next) hol hml hpl (by omega : S.next ≤ s6.next) hXS (fun k hk => (cS.s1 k hk).2.2.1) ⟨cS.s2.1, cS.s2.2.1⟩ cS.s3 hnew7
              have cA : DoesA s7 s.next o m p y q qn' [] clock kv vv (.slice none 0 0) w wn' B B [] room :=
                ⟨cx6.keep X7 (by simp; exact hoy.1) (by simp; exact hmy.1), cb6.keep X7 (fun k hk => by have := hpy k hk; simp; exact this.1), cry7, Ch4.nil, cQ.rb, cQ.rb, cQ.lb, cQ.lb, fun k hk => ⟨(hbo k hk).1, (hbo k hk).2, sp1 k hk, (cS.s1 k hk).2.2.2⟩, ⟨sp2.1, sp2.2, cS.s2.2.2.1, cS.s2.2.2.2⟩, sp3⟩
              simp (maxSteps := 4000000) only [contS_normal, contB_normal, contR_ap, WO_nil, contO_ap, putT_some]
              refine doesTail hF hI hR hBa hO hH hN hR2 h4 hQf (d := d) cA hr1 hGE (by simp (maxSteps := 4000000) only [get_put_ne, Nat.reduceEqDiff, not_false_eq_true, g7]) (by simp (maxSteps := 4000000) only [get_put_ne, Nat.reduceEqDiff, not_false_eq_true, g8]) (by simp (maxSteps := 4000000) only [get_put_ne, Nat.reduceEqDiff, not_false_eq_true, g9]) (by simp (maxSteps := 4000000) only [get_put_ne, Nat.reduceEqDiff, not_false_eq_true, g11]) (by simp (maxSteps := 4000000) only [get_put_eq, get_put_ne, Nat.reduceEqDiff, not_false_eq_true]) (by simp (maxSteps := 4000000) only [get_put_eq, get_put_ne, Nat.reduceEqDiff, not_false_eq_true]) gqE (fun t' S' ht X' => ?_)
              have h2' : t'.get 2 = some v2 := by rw [ht 2 (by simp), hv2]; simp (maxSteps := 4000000) only [get_put_ne, Nat.reduceEqDiff, not_false_eq_true, g2]
              have h7' : t'.get 7 = some (.pointer (some ⟨p, 0, none⟩)) := by rw [ht 7 (by simp)]; simp (maxSteps := 4000000) only [get_put_ne, Nat.reduceEqDiff, not_false_eq_true, g7]
              have h8' : t'.get 8 = some (.pointer (some ⟨q, 0, none⟩)) := by rw [ht 8 (by simp)]; simp (maxSteps := 4000000) only [get_put_ne, Nat.reduceEqDiff, not_false_eq_true, g8]
              have h9' : t'.get 9 = some (.pointer (some ⟨o, 0, none⟩)) := by rw [ht 9 (by simp)]; simp (maxSteps := 4000000) only [get_put_ne, Nat.reduceEqDiff, not_false_eq_true, g9]
              have h11' : t'.get 11 = some (.pointer (some ⟨y, 0, none⟩)) := by rw [ht 11 (by simp)]; simp (maxSteps := 4000000) only [get_put_ne, Nat.reduceEqDiff, not_false_eq_true, g11]
              have h12' : t'.get 12 = some (.int .i64 (i : Int)) := by rw [ht 12 (by simp)]; simp (maxSteps := 4000000) only [get_put_ne, Nat.reduceEqDiff, not_false_eq_true, g12]
              simp (maxSteps := 4000000) only [WC_region, contS_normal, contB_normal, contR_ap, contL_normal, WO_nil, WO_pp, contO_ap, atS_ap, W_some, W_mv, W_bin, dbin, dint, ev_tmp, ev_const, putT_some, get_put_eq, Option.getD_some, if_true, h12', w1]
              exact hfin _ _ _ _ _ _ _ _ _ _ _ _ _ (cA.keep X') (X0E.trans' X') ⟨by simp (maxSteps := 4000000) only [get_put_ne, Nat.reduceEqDiff, not_false_eq_true, h2'], by simp (maxSteps := 4000000) only [get_put_ne, Nat.reduceEqDiff, not_false_eq_true, h7'], by simp (maxSteps := 4000000) only [get_put_ne, Nat.reduceEqDiff, not_false_eq_true, h8'], by simp (maxSteps := 4000000) only [get_put_ne, Nat.reduceEqDiff, not_false_eq_true, h9'], by simp (maxSteps := 4000000) only [get_put_ne, Nat.reduceEqDiff, not_false_eq_true, h11'], by simp (maxSteps := 4000000) only [get_put_eq]⟩
            · simp (maxSteps := 4000000) (maxDischargeDepth := 8) only [WC_seq, WC_region, WC_cond, WC_block, WC_skip, contS_normal, contB_normal, contR_ap, WO_nil, WO_pp, condC_true, condC_false, contO_ap, atS_ap, atD_ap, W_some, W_mv, W_bin, W_fadr, W_ixL, W_blenL, W_ld, W_st, W_alloc, dpure, dbin, dint, ev_tmp, ev_const, putT_some, putT_none, get_put_eq, get_put_ne, not_false_eq_true, Option.getD_some, ldV_at, Cells.get, getN, Nat.zero_add, Nat.reduceAdd, st_wr, cells_agg, List.length_cons, List.length_nil, allOne, oneCellD, Bool.and_self, Bool.and_true, Nat.beq_eq, Nat.ble_eq, Nat.blt_eq, Nat.le_refl, if_true, DS.wrC, Cells.size, Cells.fillFrom, Cells.set, setN, DS.upd_get_self, Option.map_some, wrN, W_ldA, Nat.add_zero, asIdx_cast, decide_true, decide_false, get_new_at, good_new, good_at, eq_lt, eq_gt, Nat.reduceLT, Nat.lt_add_one, g2, g7, g8, g9, g11, g12, e1, c1, hld, hGS, k1, k2, k3, k4]
              rw [← hS1]
              have hGE := hGQ
              have gqE := gq
              have X0E := XS.trans' XQ
              have cA := cQ
              refine doesTail hF hI hR hBa hO hH hN hR2 h4 hQf (d := d) cA hr1 hGE (by simp (maxSteps := 4000000) only [get_put_ne, Nat.reduceEqDiff, not_false_eq_true, g7]) (by simp (maxSteps := 4000000) only [get_put_ne, Nat.reduceEqDiff, not_false_eq_true, g8]) (by simp (maxSteps := 4000000) only [get_put_ne, Nat.reduceEqDiff, not_false_eq_true, g9]) (by simp (maxSteps := 4000000) only [get_put_ne, Nat.reduceEqDiff, not_false_eq_true, g11]) (by simp (maxSteps := 4000000) only [get_put_eq, get_put_ne, Nat.reduceEqDiff, not_false_eq_true]) (by simp (maxSteps := 4000000) only [get_put_eq, get_put_ne, Nat.reduceEqDiff, not_false_eq_true]) gqE (fun t' S' ht X' => ?_)
              have h2' : t'.get 2 = some v2 := by rw [ht 2 (by simp), hv2]; simp (maxSteps := 4000000) only [get_put_ne, Nat.reduceEqDiff, not_false_eq_true, g2]
              have h7' : t'.get 7 = some (.pointer (some ⟨p, 0, none⟩)) := by rw [ht 7 (by simp)]; simp (maxSteps := 4000000) only [get_put_ne, Nat.reduceEqDiff, not_false_eq_true, g7]
              have h8' : t'.get 8 = some (.pointer (some ⟨q, 0, none⟩)) := by rw [ht 8 (by simp)]; simp (maxSteps := 4000000) only [get_put_ne, Nat.reduceEqDiff, not_false_eq_true, g8]
              have h9' : t'.get 9 = some (.pointer (some ⟨o, 0, none⟩)) := by rw [ht 9 (by simp)]; simp (maxSteps := 4000000) only [get_put_ne, Nat.reduceEqDiff, not_false_eq_true, g9]
              have h11' : t'.get 11 = some (.pointer (some ⟨y, 0, none⟩)) := by rw [ht 11 (by simp)]; simp (maxSteps := 4000000) only [get_put_ne, Nat.reduceEqDiff, not_false_eq_true, g11]
              have h12' : t'.get 12 = some (.int .i64 (i : Int)) := by rw [ht 12 (by simp)]; simp (maxSteps := 4000000) only [get_put_ne, Nat.reduceEqDiff, not_false_eq_true, g12]
              simp (maxSteps := 4000000) only [WC_region, contS_normal, contB_normal, contR_ap, contL_normal, WO_nil, WO_pp, contO_ap, atS_ap, W_some, W_mv, W_bin, dbin, dint, ev_tmp, ev_const, putT_some, get_put_eq, Option.getD_some, if_true, h12', w1]
              exact hfin _ _ _ _ _ _ _ _ _ _ _ _ _ (cA.keep X') (X0E.trans' X') ⟨by simp (maxSteps := 4000000) only [get_put_ne, Nat.reduceEqDiff, not_false_eq_true, h2'], by simp (maxSteps := 4000000) only [get_put_ne, Nat.reduceEqDiff, not_false_eq_true, h7'], by simp (maxSteps := 4000000) only [get_put_ne, Nat.reduceEqDiff, not_false_eq_true, h8'], by simp (maxSteps := 4000000) only [get_put_ne, Nat.reduceEqDiff, not_false_eq_true, h9'], by simp (maxSteps := 4000000) only [get_put_ne, Nat.reduceEqDiff, not_false_eq_true, h11'], by simp (maxSteps := 4000000) only [get_put_eq]⟩
    · obtain rfl : i = l2.length := by omega
      have hvl : ∃ a c, v2 = .slice a l2.length c := by
        rcases hr2 with ⟨rfl, rfl⟩ | ⟨b, c, rfl, _⟩
        · exact ⟨_, _, rfl⟩
        · exact ⟨_, _, rfl⟩
      obtain ⟨a, cc, hv2⟩ := hvl
      rw [hv2] at g2
      have e1 : ¬ (l2.length : Int) < (l2.length : Int) := by omega
      simp (maxSteps := 4000000) only [WC_seq, WC_region, WC_cond, WC_ret, WC_exit, contS_normal, contS_exit, contB_exit, contR_ap, contL_exit, WO_nil, WO_pp, condC_false, contO_ap, atS_ap, W_some, W_mv, W_bin, W_blenL, dpure, dbin, dint, Ends_ret, ev_tmp, ev_const, putT_some, get_put_eq, get_put_ne, Nat.reduceEqDiff, not_false_eq_true, Option.getD_some, dresults, tupled, if_true, decide_false, g2, g7, g8, g9, g11, g12, e1]
  · simp (maxSteps := 4000000) only [WC_seq, WC_region, contS_normal, contR_ap, WO_nil, WO_pp, contO_ap, W_mv, W_call, ev_tmp, ev_const, ev_func, putT_some, get_put_eq, get_put_ne, Nat.reduceEqDiff, not_false_eq_true, ofList_get, List.getElem?_cons_zero, List.getElem?_cons_succ, Option.getD_some, List.map_cons, List.map_nil, reduceCtorEq, pp, pv, pw, pg, d4x]
    refine W.mono (base_bad hF hI hR hBa hO hH hN hR2 h4 hQf (d := d + 11) hG hroom) ?_
    rintro r rfl
    simp (maxSteps := 4000000) only [WC_seq, WC_region, WC_cond, WC_skip, WC_ret, contS_normal, contS_ret, contR_ap, WO_nil, WO_pp, WO_g, gateO_tt, gateO_tf, condC_true, condC_false, contO_ap, atS_ap, atB_ap, W_some, W_mv, W_pick, W_eq1, W_un, W_ext, W_call, dpure, eqOne, Ends_ret, ev_tmp, ev_const, ev_func, putT_some, get_put_eq, get_put_ne, Nat.reduceEqDiff, not_false_eq_true, Option.getD_some, dresults, tupled, List.map_nil, getN, if_true, if_false, Bool.not_true, Bool.false_eq_true, List.nil_append, Option.isNone_none, lv]
end
end Go.Dx.OvA
