/- A store's code (made by tools/gen.py out of pack.t). -/
import Derived.Test.YtnmajohhfcgddaaS1It
import Derived.Test.YtnmajohhfcgddaaS1Cd
set_option linter.unusedVariables false
set_option linter.unusedSimpArgs false
set_option linter.unusedSectionVars false
set_option maxRecDepth 100000
set_option maxHeartbeats 4000000
namespace Go.Dx.StA
open Go Go.Dx Go.Dx.Search Go.Dx.St Go.Proofs.Ytnmajohhfcgddaa

theorem FieldOk.of_get {α : Type} {E : Env} {n m : Nat} {s s' : DS} {v : Value} {Rep : Nat → DS → Value → α → Prop} {Ok : α → Prop} {enc : α → List Int} (h : FieldOk E n m s v Rep Ok enc) (e : ∀ k, s'.get k = s.get k) (hn : s.next ≤ s'.next) : FieldOk E n m s' v Rep Ok enc := by
  obtain ⟨f, a, b, g, a', b', D, h1, h2, h3, h4⟩ := h
  exact ⟨f, a, b, g, a', b', D, h1, fun p hp => (e _).trans (h2 p hp), fun p hp => ⟨(h3 p hp).1, Nat.lt_of_lt_of_le (h3 p hp).2 hn⟩, h4⟩
structure PkFns (E : Env) : Prop where
  f57 : E.fn 57 = some d57
  i57 : E.intr 57 = none
  f60 : E.fn 60 = some d60
  i60 : E.intr 60 = none
  f59 : E.fn 59 = some d59
  i59 : E.intr 59 = none
  f81 : E.fn 81 = some d81
  i81 : E.intr 81 = none
  f58 : E.fn 58 = some d58
  i58 : E.intr 58 = none
  f79 : E.fn 79 = some d79
  i79 : E.intr 79 = none
  f56 : E.fn 56 = some d56
  i56 : E.intr 56 = none
  f76 : E.fn 76 = some d76
  i76 : E.intr 76 = none
  f38 : E.fn 38 = some d38
  i38 : E.intr 38 = none
  f42 : E.fn 42 = some d42
  i42 : E.intr 42 = none
  f63 : E.fn 63 = some d63
  i63 : E.intr 63 = none
  f18 : E.fn 18 = some d18
  i18 : E.intr 18 = none
  fr : ∀ d, CallFrame (dcall E d)
abbrev StForm := Int × List Ent
def repSt : Nat → DS → Value → StForm → Prop := repP repI (repL 2 (repP repI repI))
theorem repSt_ok : RepOk repSt := repP_ok repI_ok (repL_ok (repP_ok repI_ok repI_ok))
def okSt (x : StForm) : Prop := okNum 2 65535 x.1 ∧ (x.2.length ≤ 4096 ∧ ∀ y, y ∈ x.2 → okNum 8 0 y.1 ∧ okNum 8 0 y.2)
def entB (y : Ent) : List Int := leB y.1 8 ++ leB y.2 8
def encSt (x : StForm) : List Int := leB x.1 2 ++ (leB x.2.length 2 ++ catE entB x.2)
section
variable {E : Env} (hC : CFns E) (hP : PkFns E) {s : DS} {d : Nat}
include hC hP
theorem form_ok (hG : s.Good) : W (dcall E (d + 3) (.func (.func 38) #[] #[]) [] s) fun r => FieldOk E 6 s.next r.2 r.1 repSt okSt encSt ∧ Ext [] s r.2 := by
  refine W_cps fun Q hQ => ?_
  rw [W_enter0 hP.i38 hP.f38 rfl]
  simp (maxSteps := 4000000) (maxDischargeDepth := 8) only [WC_seq, WC_region, contS_normal, contR_ap, WO_nil, WO_pp, contO_ap, W_alloc, W_call, ev_func, putT_some, List.map_nil, pp, d38, hG]
  have h0 : ∀ o, (s.new o).get s.next = some o := fun o => DS.new_get_self hG
  have w0 : (s.new (.cells (.list [.nilFunc, .nilFunc]) false)).wr s.next = true := (hG _ (Nat.le_refl _)).2
  refine W.mono (num57_field hC (m := s.next + 1) (DS.new_good hG) (Nat.le_refl _) hP.f57 hP.i57) ?_
  rintro ⟨v1, s1⟩ ⟨q1, X1⟩
  simp only at q1 X1
  have hG1 := X1.good (DS.new_good hG)
  simp (maxSteps := 4000000) only [WO_pp, contO_ap, W_call, ev_func, putT_some, List.map_nil]
  refine W.mono (num60_field hC (m := s.next + 1) hG1 X1.le hP.f60 hP.i60) ?_
  rintro ⟨v2, s2⟩ ⟨q2, X2⟩
  simp only at q2 X2
  have hG2 := X2.good hG1
  simp (maxSteps := 4000000) only [WO_pp, contO_ap, W_call, ev_func, putT_some, List.map_nil]
  refine W.mono (num60_field hC (m := s.next + 1) hG2 (Nat.le_trans X1.le X2.le) hP.f60 hP.i60) ?_
  rintro ⟨v3, s3⟩ ⟨q3, X3⟩
  simp only at q3 X3
  have hG3 := X3.good hG2
  simp (maxSteps := 4000000) only [WO_pp, contO_ap, W_call, ev_tmp, ev_func, putT_some, get_put_eq, get_put_ne, Nat.reduceEqDiff, not_false_eq_true, Option.getD_some, List.map_cons, List.map_nil]
  refine W.mono (both59_field hC (Nat.le_trans X1.le (Nat.le_trans X2.le X3.le)) hG3 (q2.keep X3) q3 hP.f59 hP.i59 fun ha hb => both59_put hC ha hb repI_ok repI_ok (fun _ _ _ x h => ⟨x, h⟩) (fun _ _ _ x h => ⟨x, h⟩) hP.f81 hP.i81) ?_
  rintro ⟨v4, s4⟩ ⟨q4, X4⟩
  simp only at q4 X4
  have hG4 := X4.good hG3
  simp (maxSteps := 4000000) only [WO_pp, contO_ap, W_call, ev_tmp, ev_func, putT_some, get_put_eq, Option.getD_some, List.map_cons, List.map_nil]
  refine W.mono (many58_field hC (Nat.le_trans X1.le (Nat.le_trans X2.le (Nat.le_trans X3.le X4.le))) hG4 q4 (by omega) (repP_ok repI_ok repI_ok) hP.f58 hP.i58 hP.f79 hP.i79) ?_
  rintro ⟨v5, s5⟩ ⟨q5, X5⟩
  simp only at q5 X5
  have hG5 := X5.good hG4
  simp (maxSteps := 4000000) only [WO_pp, contO_ap, W_call, ev_tmp, ev_func, putT_some, get_put_eq, get_put_ne, Nat.reduceEqDiff, not_false_eq_true, Option.getD_some, List.map_cons, List.map_nil]
  have X15 := X2.trans' (X3.trans' (X4.trans' X5))
  refine W.mono (both56_field hC (Nat.le_trans X1.le X15.le) hG5 ((q1.keep X15).mono (show 3 ≤ 5 by omega)) q5 hP.f56 hP.i56 fun ha hb => both56_put hC ha hb repI_ok (repL_ok (repP_ok repI_ok repI_ok)) (fun _ _ _ x h => ⟨x, h⟩) (fun _ _ v _ h => by
    obtain ⟨l, _, _, h3 | ⟨b, off, sp, c, e1, _⟩, _⟩ := h
    · exact ⟨none, 0, 0, h3.1⟩
    · exact ⟨_, _, _, e1⟩) hP.f76 hP.i76) ?_
  rintro ⟨v6, s6⟩ ⟨q6, X6⟩
  simp only at q6 X6
  have X06 := X1.trans' (X15.trans' X6)
  have g6 := X06.keep (h0 _) (by simp)
  have w6 := X06.wrs w0
  obtain ⟨f, a, b, g, a', b', D, rfl, k2, k3, k4⟩ := q6
  simp (maxSteps := 4000000) (maxDischargeDepth := 8) only [WC_ret, contS_normal, contR_ap, WO_nil, WO_pp, contO_ap, atD_ap, W_some, W_st, dread, Ends_ret, ev_tmp, putT_some, putT_none, get_put_eq, get_put_ne, not_false_eq_true, Option.getD_some, dresults, tupled, Cells.get, getN, Nat.zero_add, Nat.reduceAdd, st_wr, cells_agg, List.length_cons, List.length_nil, allOne, oneCellD, Bool.and_self, Bool.and_true, Nat.beq_eq, Nat.ble_eq, Nat.le_refl, if_true, DS.wrC, Cells.size, Cells.fillFrom, Cells.set, setN, DS.upd_get_self, Option.map_some, DS.read, Cells.take, eq_lt, Nat.lt_add_one, Nat.succ_pos, g6, w6]
  have X7 : ∀ o, Ext [] s (s6.upd s.next o) := fun o => (Ext.new.trans' X06).trans (Ext.upd (F := [s.next]) (.inl (by simp))) (by simp)
  refine hQ _ ⟨⟨f, a, b, g, a', b', D, rfl, fun p hp => ?_, fun p hp => ?_, k4⟩, X7 _⟩
  · have := (k3 p hp).1
    simp only [DS.new_next] at this
    simp (maxSteps := 4000000) (maxDischargeDepth := 8) only [not_false_eq_true, DS.upd_get_ne, k2 p hp, show ¬ p.1 = s.next by omega]
  · have := k3 p hp
    simp only [DS.new_next] at this
    simp (maxSteps := 4000000) (maxDischargeDepth := 8) only [DS.upd_next]
    omega
def asgP : DCode := (.seq (.region [pv 4 17]) (.region [pv 5 18]))
def bodyP : DCode := (.block 1 (.region [pp 19 (.fadr 1 (tm 3)), pp 20 (.ld none (tm 19)), pv 21 4, pv 22 5, pp 23 (.build [.int .i64 0, .int .i64 0] [(0, 1, .tmp 21), (1, 1, .tmp 22)]), pp 24 (.bslice 1 2 [.int .i64 0, .int .i64 0] [(0, 2, .tmp 23)]), pp 25 (.bapp 16 2 (tm 20) (tm 24)), pp 26 (.fadr 1 (tm 3)), ⟨none, .st 1 (tm 26) (tm 25), none, [], false⟩]))
def entV (L : List Ent) : List (List Value) := L.map fun x => [.int .i64 x.1, .int .i64 x.2]
omit hC hP in
theorem entV_ok (L : List Ent) : RowsOk 2 (entV L) := ⟨fun x hx => by obtain ⟨y, _, rfl⟩ := List.mem_map.1 hx; rfl, fun x hx => by obtain ⟨y, _, rfl⟩ := List.mem_map.1 hx; rfl⟩
omit hC hP in
theorem entV_len (L : List Ent) : (entV L).length = L.length := List.length_map ..
structure PackJ (U : DS) (n3 y1 : Nat) (room : Int) (tt : PT Value) (A B : DCode) (L : List Ent) (i : Nat) (S : DS) : Prop where
  ex : ∃ bw, Ext [n3, y1] U S ∧ S.get n3 = some (.cells (.list [.int .i64 room, bw]) false) ∧ SlC S 2 bw (entV (L.take i)) ∧ (∀ k, k ∈ blk bw → U.next ≤ k) ∧ S.get y1 = some (loopOb tt [17, 18] A B)
def packB (room : Int) (L : List Ent) : List Int := encSt (room, L)
variable (hF : Fns E) (hI : Its E) {p : Nat} {kv vv : Value} {L : List Ent} {room : Int}
include hF hI
theorem Pack_ok (c : StAt s p kv vv L room) (hG : s.Good) (hroom : 0 ≤ room ∧ room ≤ 65535) (hl : L.length ≤ 4096) :
    W (dcall E (d + 12) (.func (.func 18) #[] #[]) [.pointer (some ⟨p, 0, none⟩)] s) fun r => SlV r.2 1 r.1 (bytesV (packB room L)) ∧ (∃ a, r.1 = .slice a (packB room L).length (packB room L).length ∧ ∀ z, a = some z → z.spot = none) ∧ (∀ k, k ∈ blk r.1 → s.next ≤ k ∧ k < r.2.next) ∧ Ext [] s r.2 := by
  have hlf := hF.lf
  have hlen := c.len
  have hlt := c.lt
  have gp := c.gp
  have hpl := hlt p (List.mem_cons_self ..)
  obtain ⟨A, hA⟩ : ∃ A, A = asgP := ⟨_, rfl⟩
  obtain ⟨B, hB⟩ : ∃ B, B = bodyP := ⟨_, rfl⟩
  refine W_cps fun Q hQ => ?_
  rw [W_enter0 hP.i18 hP.f18 rfl]
  simp (maxSteps := 4000000) (maxDischargeDepth := 8) only [WC_seq, WC_region, WC_cond, WC_block, WC_skip, contS_normal, contR_ap, WO_nil, WO_pp, condC_false, contO_ap, atS_ap, atD_ap, atG_ap, atB_ap, W_some, W_mv, W_eq1, W_nilck, W_build, W_fadr, W_ld, W_st, W_alloc, W_call, dpure, eqOne, ev_tmp, ev_const, ev_func, putT_some, putT_none, get_put_eq, get_put_ne, not_false_eq_true, ofList_get, List.getElem?_cons_zero, Option.getD_some, List.map_cons, List.map_nil, ldV_at, Cells.get, getN, Nat.zero_add, Nat.reduceAdd, st_wr, cells_int, cells_agg, List.length_cons, List.length_nil, allOne, oneCellD, Bool.and_self, Bool.and_true, Bool.and_eq_true, Nat.beq_eq, Nat.ble_eq, Nat.reduceLeDiff, Nat.le_refl, and_self, if_true, if_false, Bool.not_false, Bool.false_eq_true, DS.wrC, Cells.size, Cells.fillFrom, Cells.set, setN, fillParts, List.take_zero, List.drop_succ_cons, List.drop_zero, List.nil_append, List.cons_append, pp, pv, DS.upd_next, nextN, wrN, get_new_at, good_new, good_at, eq_lt, eq_gt, Nat.reduceLT, Nat.succ_pos, d18, gp, All_ok hI, hG, hpl]
  refine WC_rf (by simp (maxSteps := 4000000) only [ev_tmp, get_put_eq, Option.getD_some]; rfl) ?_
  simp (maxSteps := 4000000) (maxDischargeDepth := 8) only [Nat.reduceAdd, DS.upd_next, nextN, Nat.add_assoc]
  obtain ⟨T, hT⟩ : ∃ T : DS, T = ((s.new (.cells (.list [.int .i64 0, .slice none 0 0]) false)).upd s.next (.cells (.list [.int .i64 room, .slice none 0 0]) false)).new (.cells (.list [.pointer (some ⟨p, 0, none⟩)]) false) := ⟨_, rfl⟩
  rw [← hT]
  have XT : Ext [] s T := by rw [hT]; exact (Ext.new.trans (Ext.upd (F := [s.next]) (.inl (by simp))) (by simp)).trans' Ext.new
  have nT : T.next = s.next + 2 := by rw [hT]; simp (maxSteps := 4000000) (maxDischargeDepth := 8) only [Nat.reduceAdd, DS.upd_next, nextN, Nat.add_assoc]
  have hGT := XT.good hG
  have T0 : T.get s.next = some (.cells (.list [.int .i64 room, .slice none 0 0]) false) := by rw [hT]; simp (maxSteps := 4000000) (maxDischargeDepth := 8) only [DS.upd_get_self, DS.upd_next, Option.map_some, nextN, get_new_at, get_new_ne, good_new, DS.upd_good, Nat.lt_add_one, hG]
  have T1 : T.get (s.next + 1) = some (.cells (.list [.pointer (some ⟨p, 0, none⟩)]) false) := by rw [hT]; simp (maxSteps := 4000000) (maxDischargeDepth := 8) only [DS.upd_next, nextN, get_new_at, good_new, DS.upd_good, hG]
  generalize hO : loopOb _ _ _ _ = O
  obtain ⟨tt, hO2, t3⟩ : ∃ tt, O = loopOb tt [17, 18] A B ∧ tt.get 3 = some (.pointer (some ⟨s.next, 0, none⟩)) := ⟨_, by rw [hA, hB]; exact hO.symm, by simp (maxSteps := 4000000) only [get_put_eq, get_put_ne, Nat.reduceEqDiff, not_false_eq_true]⟩
  obtain ⟨U, hU⟩ : ∃ U : DS, U = (T.new .dfr).new O := ⟨_, rfl⟩
  rw [← hU]
  have XU : Ext [] T U := by rw [hU]; exact Ext.new.trans' Ext.new
  have nU : U.next = s.next + 4 := by rw [hU]; simp (maxSteps := 4000000) (maxDischargeDepth := 8) only [Nat.reduceAdd, nextN, Nat.add_assoc, nT]
  have U3 : U.get (s.next + 3) = some O := by rw [hU]; simp (maxSteps := 4000000) (maxDischargeDepth := 8) only [Nat.reduceAdd, nextN, get_new_at, good_new, Nat.add_assoc, hGT, nT]
  have U2 : U.get (s.next + 2) = some .dfr := by rw [hU]; simp (maxSteps := 4000000) (maxDischargeDepth := 8) only [Nat.reduceAdd, nextN, get_new_at, get_new_ne, good_new, Nat.add_assoc, Nat.lt_add_one, hGT, nT]
  have XsU : Ext [] s U := XT.trans' XU
  have hGU := XsU.good hG
  have wU : ∀ k, U.wr (s.next + k) = true := fun k => XsU.wrs (hG _ (Nat.le_add_right _ _)).2
  have U0 := XU.keep T0 (by simp)
  have U1 := XU.keep T1 (by simp)
  have cU := c.keep XsU (by simp)
  have hown : ∀ k, k ∈ own p kv vv → k ∉ [s.next, s.next + 3] := fun k hk => by have := hlt k hk; simp; omega
  refine W.mono (all_iter hI (d := d + 10) (J := PackJ U s.next (s.next + 3) room tt A B L) (Stop := fun _ => False) (p := p) (kv := kv) (vv := vv) (room := room)
    (fun i S h => by obtain ⟨kw, XS, _⟩ := h; exact ⟨cU.keep XS hown, XS.keep U1 (by simp)⟩) ?_ ⟨_, .refl, U0, by simpa [entV] using SlC.nil, by simp [blk], U3.trans (by rw [hO2])⟩ (by omega)) ?_
  · rintro i x S hx ⟨bw, XS, gk, sk, bk, gy⟩
    have hi := (List.getElem?_eq_some_iff.1 hx).1
    have wS : ∀ k, S.wr (s.next + k) = true := fun k => XS.wrs (wU k)
    have wS0 := wS 0
    rw [Nat.add_zero] at wS0
    have hGS := XS.good hGU
    have hnS := XS.le
    have hlS := DS.get_lt' gk
    refine W_yield gy rfl ?_
    simp (maxSteps := 4000000) only [WC_seq, WC_region, contS_normal, contR_ap, WO_nil, WO_pp, contO_ap, W_mv, ev_tmp, putT_some, get_put_eq, get_put_ne, Nat.reduceEqDiff, not_false_eq_true, Option.getD_some, pv, setParams_nil, setParams_cons, WC_code hA, asgP]
    refine contY_ap gy (wS 3) ?_
    simp (maxSteps := 4000000) (maxDischargeDepth := 8) only [WC_region, WC_block, WO_pp, contO_ap, atS_ap, atG_ap, atL_ap, W_some, W_mv, W_build, W_fadr, W_ld, dpure, ev_tmp, putT_some, get_put_eq, get_put_ne, not_false_eq_true, Option.getD_some, ldV_at, Cells.get, getN, Nat.zero_add, Nat.reduceAdd, cells_int, cells_agg, List.length_cons, List.length_nil, Bool.and_self, Bool.and_eq_true, Nat.beq_eq, Nat.ble_eq, Nat.reduceLeDiff, Nat.le_refl, and_self, if_true, fillParts, List.take_zero, List.take_succ_cons, List.drop_succ_cons, List.drop_zero, List.nil_append, List.cons_append, List.drop_nil, List.append_nil, pp, pv, DS.upd_get_ne, DS.upd_next, W_app, W_bslice, repeatZ, Nat.reduceMul, atL_ap, eq_lt, lt_add_s, Nat.reduceLT, Nat.lt_add_one, Nat.succ_pos, WC_code hB, bodyP, t3, gk, hGS, hlS]
    obtain ⟨S1, hS1⟩ : ∃ S1 : DS, S1 = ((S.upd (s.next + 3) (.loop .busy .normal tt [17, 18] A B)).new (.cells (.list [.int .i64 x.1, .int .i64 x.2]) false)) := ⟨_, rfl⟩
    have X1 : Ext [s.next + 3] S S1 := by rw [hS1]; exact (Ext.upd (.inl (by simp))).trans' Ext.new
    have n1 : S1.next = S.next + 1 := by rw [hS1]; simp (maxSteps := 4000000) (maxDischargeDepth := 8) only [DS.upd_next, nextN]
    have g1 : S1.get S.next = some (.cells (.list [.int .i64 x.1, .int .i64 x.2]) false) := by rw [hS1]; simp (maxSteps := 4000000) (maxDischargeDepth := 8) only [DS.upd_next, get_new_at, DS.upd_good, hGS]
    have y1 : S1.get (s.next + 3) = some (.loop .busy .normal tt [17, 18] A B) := by
      rw [hS1]
      simp (maxSteps := 4000000) (maxDischargeDepth := 8) only [DS.upd_get_self, DS.upd_next, Option.map_some, get_new_ne, gy, show s.next + 3 < S.next by omega]
    have hkn : ∀ k, k ∈ blk bw → k ∉ [s.next + 3] := fun k hk => by have := bk k hk; simp; omega
    have hw : SlV S1 2 (.slice (some ⟨S.next, 0, none⟩) 1 1) (entV [x]) := .inr ⟨S.next, 0, none, 1, rfl, by unfold DS.read; rw [g1]; rfl⟩
    have hlt2 : ((entV (L.take i)).length + (entV [x]).length) ≤ 5001 := by simp [entV]; omega
    rw [← hS1]
    refine W.mono (appC_ok (sk.keep X1 hkn) hw (entV_ok _) (entV_ok [x]) (X1.good hGS) (by omega) (by omega)) ?_
    rintro ⟨kw2, S2⟩ ⟨sk2, X2, b2, _⟩
    simp only at sk2 X2 b2
    have k1 := X1.keep gk (by simp)
    have hkn2 : s.next ∉ blk bw := fun h => by have := bk _ h; omega
    have hkn3 : s.next + 3 ∉ blk bw := fun h => by have := bk _ h; omega
    have k2 := X2.keep k1 hkn2
    have y2 := X2.keep y1 hkn3
    have w2 : ∀ k, S2.wr (s.next + k) = true := fun k => X2.wrs (X1.wrs (wS k))
    have w20 := X2.wrs (X1.wrs wS0)
    obtain ⟨a2, c2, hk2⟩ := sk2.shape
    subst hk2
    simp (maxSteps := 4000000) (maxDischargeDepth := 8) only [contB_normal, contR_ap, WO_nil, WO_pp, contO_ap, atS_ap, atD_ap, W_some, W_fadr, W_st, dpure, ev_tmp, putT_some, putT_none, get_put_eq, get_put_ne, not_false_eq_true, Option.getD_some, Nat.zero_add, Nat.reduceAdd, st_wr, cells_slice, List.length_cons, List.length_nil, allOne, oneCellD, Bool.and_self, Bool.and_true, Nat.beq_eq, Nat.ble_eq, Nat.le_refl, if_true, DS.wrC, Cells.size, Cells.fillFrom, Cells.set, setN, List.length_append, eq_lt, Nat.reduceLT, Nat.lt_add_one, k2, w2, w20, t3]
    refine contZ_ap (p := .normal) (t3 := tt) (ps3 := [17, 18]) (a3 := A) (b3 := B) ?_ ?_ ?_
    · simp (maxSteps := 4000000) (maxDischargeDepth := 8) only [not_false_eq_true, DS.upd_get_ne, eq_gt, lt_add_s, Nat.succ_pos, y2]
    · simp (maxSteps := 4000000) (maxDischargeDepth := 8) only [DS.upd_wr, w2]
    have htake : entV (L.take (i + 1)) = entV (L.take i) ++ entV [x] := by unfold entV; rw [List.take_add_one, List.map_append]; simp [hx]
    have hb2 : ∀ k, k ∈ blk (.slice a2 (entV (L.take i) ++ entV [x]).length c2) → U.next ≤ k := fun k hk => by
      rcases b2 k hk with h | h
      · exact bk k h
      · omega
    refine .inl ⟨rfl, .slice a2 (entV (L.take i) ++ entV [x]).length c2, ?_, ?_, ?_, hb2, ?_⟩
    · exact (((XS.trans' (X1.weaken (by simp))).trans X2 fun k hk => .inr (bk k hk)).trans' (Ext.upd (.inl (by simp)))).trans' (Ext.upd (.inl (by simp)))
    · simp (maxSteps := 4000000) (maxDischargeDepth := 8) only [not_false_eq_true, if_true, DS.upd_get_self, DS.upd_get_ne, Option.map_some, List.length_append, eq_lt, lt_add_s, Nat.succ_pos, k2]
    · rw [htake]
      refine sk2.of fun k hk => ?_
      have := hb2 k hk
      simp (maxSteps := 4000000) (maxDischargeDepth := 8) only [not_false_eq_true, Bool.true_and, true_and, if_true, DS.upd_get_ne, DS.upd_wr, show ¬ k = s.next by omega, show ¬ k = s.next + 3 by omega]
      exact fun h => h
    · simp (maxSteps := 4000000) (maxDischargeDepth := 8) only [not_false_eq_true, if_true, DS.upd_get_self, DS.upd_get_ne, Option.map_some, eq_gt, lt_add_s, Nat.succ_pos, y2]
      rfl
  rintro ⟨vv2, r⟩ (⟨bw, XR, gk, sk, bk, gy⟩ | h)
  · simp only at XR gk sk bk gy
    have wR : ∀ k, r.wr (s.next + k) = true := fun k => XR.wrs (wU k)
    refine contF_ap gy (.inl rfl) (wR 3) ?_
    have hlr := DS.get_lt' gk
    obtain ⟨ab, cb, hbw⟩ := sk.shape
    rw [List.take_length] at sk hbw
    rw [entV_len] at hbw
    simp (maxSteps := 4000000) (maxDischargeDepth := 8) only [WC_seq, WC_region, contS_normal, contB_normal, WO_pn, WO_hn, contN_ap, atS_ap, W_some, W_call, ev_tmp, ev_func, putT_some, get_put_eq, get_put_ne, not_false_eq_true, Option.getD_some, List.map_nil, Cells.get, getN, List.nil_append, DS.upd_get_ne, DS.upd_next, W_ldA, ldA, foot, DS.read, Cells.take, eq_lt, lt_add_s, Nat.reduceLT, Nat.succ_pos, gk, hlr]
    obtain ⟨V, hV⟩ : ∃ V : DS, V = r.upd (s.next + 3) (.loop .exhausted .normal tt [17, 18] A B) := ⟨_, rfl⟩
    rw [← hV]
    have XF : Ext [s.next, s.next + 3] U V := by rw [hV]; exact XR.trans' (Ext.upd (.inl (by simp)))
    have XsV : Ext [] s V := XsU.trans XF (by simp)
    have hGV := XsV.good hG
    have nV : V.next = r.next := by rw [hV]; simp (maxSteps := 4000000) (maxDischargeDepth := 8) only [DS.upd_next]
    have skV : SlC V 2 bw (entV L) := by
      rw [hV]
      exact sk.keep (Ext.upd (F := [s.next + 3]) (.inl (by simp))) fun k hk => by have := bk k hk; simp; omega
    have V2 := XF.keep U2 (by simp)
    have wV := XF.wrs (wU 2)
    refine W.masked (hP.fr _) (form_ok hC hP (d := d + 8) (mask_good hGV fun k hk => ?_)) ?_
    · rw [nV] at hk
      exact ⟨by (simp only [hidden, shielded, noteAt, memN, Bool.or_false, Bool.or_eq_false_iff, Bool.and_eq_false_iff, bleF, bltF, beqF, true_and, and_true, true_or, or_true] <;> omega), by (simp only [hidden, shielded, noteAt, memN, Bool.or_false, Bool.or_eq_false_iff, Bool.and_eq_false_iff, bleF, bltF, beqF, true_and, and_true, true_or, or_true] <;> omega)⟩
    rintro v1 s1 ⟨q1, X1⟩ df
    simp only at q1 X1
    have hsame : ∀ k, (unmask V s1).get k = s1.get k := fun k => unmask_at (by (simp only [hidden, shielded, noteAt, memN, Bool.or_false, Bool.or_eq_false_iff, Bool.and_eq_false_iff, bleF, bltF, beqF, true_and, and_true, true_or, or_true] <;> omega)) X1
    have X1' := Ext.unmask' X1 df
    have q1' := FieldOk.of_get (s' := unmask V s1) q1 hsame (Nat.le_refl _)
    have hGW := X1'.good hGV
    have skW := skV.keep X1' (by simp)
    have W2' := X1'.keep V2 (by simp)
    simp (maxSteps := 4000000) only [WO_pn, contHN_ap, W_call, ev_tmp, ev_func, putT_some, get_put_eq, get_put_ne, Nat.reduceEqDiff, not_false_eq_true, Option.getD_some, List.map_cons, List.map_nil, List.nil_append, List.cons_append, nextU, foot]
    subst hbw
    show W (dcall E (((d + 3) + 6 + 1) + 1) _ _ _) _
    have hrep : repSt (unmask V s1).next (unmask V s1) (.agg ⟨[.int .i64 room, .slice ab L.length cb]⟩) (room, L) := by
      refine ⟨.int .i64 room, .slice ab L.length cb, rfl, rfl, entV L, entV_len L, entV_ok L, ?_, ?_⟩
      · rcases skW.view (entV_ok L) with h | ⟨b, off, sp, c', h1, h2⟩
        · exact .inl h
        · refine .inr ⟨b, off, sp, c', h1, ?_, h2⟩
          refine skW.lt b ?_
          rw [h1]; simp [blk]
      · intro i r x hr hx
        have hr : (entV L)[i]? = some r := hr
        unfold entV at hr
        rw [List.getElem?_map, hx] at hr
        cases hr
        exact ⟨.int .i64 x.1, .int .i64 x.2, rfl, rfl, rfl⟩
    have hlenE : (encSt (room, L)).length ≤ 1048576 := by
      have hcat : ∀ M : List Ent, (catE entB M).length = M.length * 16 := fun M => by
        induction M with
        | nil => rfl
        | cons a M ih => unfold catE at ih ⊢; rw [List.flatMap_cons, List.length_append, ih]; simp [entB, leB_len]; omega
      show (leB room 2 ++ (leB (L.length : Int) 2 ++ catE entB L)).length ≤ 1048576
      rw [List.length_append, List.length_append, leB_len, leB_len, hcat]
      omega
    refine W.mono (encode42_ok (n := 6) (d := d + 3) hC hGW q1' hrep repSt_ok ⟨.inr ⟨hroom.1, hroom.2⟩, hl, fun y _ => ⟨.inl rfl, .inl rfl⟩⟩ hlenE rfl hP.f42 hP.i42 hP.f63 hP.i63) ?_
    rintro ⟨v3, s3⟩ ⟨w, hv3, hw1, hw2, hw3, X3⟩
    simp only at hv3 hw1 hw3 X3
    subst hv3
    have W3 := X3.keep W2' (by simp)
    have w3 := X3.wrs (X1'.wrs wV)
    simp (maxSteps := 4000000) only [WC_seq, WC_region, WC_ret, contS_normal, contR_ap, WO_nil, WO_pp, WO_pn, contO_ap, contN_ap, atS_ap, W_some, W_mv, W_ext, dpure, ev_tmp, putT_some, get_put_eq, get_put_ne, Nat.reduceEqDiff, not_false_eq_true, Option.getD_some, getN, List.nil_append, List.cons_append, foot]
    rw [Ends_ret1 W3 w3]
    have hX : Ext [] s (s3.rid (s.next + 2)) := (XsV.trans' (X1'.trans' X3)).trans (Ext.rid (F := [s.next + 2]) (.inl (by simp))) (by simp)
    have hle := X1'.le
    have hln : s.next + 4 ≤ V.next := by rw [nV, ← nU]; exact XR.le
    simp (maxSteps := 4000000) only [W_some, get_put_eq, Option.getD_some, dresults, tupled]
    refine hQ _ ⟨hw1.of fun k hk => ?_, hw2, fun k hk => ?_, hX⟩
    · have := (hw3 k hk).1
      exact DS.rid_get_ne (by omega)
    · have := hw3 k hk
      rw [DS.rid_next]
      omega
  · exact absurd h id
end
end Go.Dx.StA
