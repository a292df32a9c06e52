/- A reply's code, and Finish (made by tools/gen.py out of tenc.t). -/
import Derived.Test.YtmdkppjohmfhpaaGreatT1Tab
set_option linter.unusedVariables false
set_option linter.unusedSimpArgs false
set_option linter.unusedSectionVars false
set_option maxRecDepth 100000
set_option maxHeartbeats 4000000
namespace Go.Dx.TbA
open Go Go.Dx Go.Dx.Tab Go.Proofs.YtmdkppjohmfhpaaGreat
structure EFns (E : Env) : Prop where
  fbyte : E.fn 38 = some d38
  ibyte : E.intr 38 = none
  fint : E.fn 39 = some d39
  iint : E.intr 39 = none
  fII : E.fn 37 = some d37
  iII : E.intr 37 = none
  fII1 : E.fn 61 = some d61
  iII1 : E.intr 61 = none
  fHB : E.fn 51 = some d51
  iHB : E.intr 51 = none
  fHB1 : E.fn 78 = some d78
  iHB1 : E.intr 78 = none
  fIH : E.fn 52 = some d52
  iIH : E.intr 52 = none
  fIH1 : E.fn 80 = some d80
  iIH1 : E.intr 80 = none
  fTT : E.fn 50 = some d50
  iTT : E.intr 50 = none
  fTT1 : E.fn 76 = some d76
  iTT1 : E.intr 76 = none
  fflag : E.fn 41 = some d41
  iflag : E.intr 41 = none
  fflag1 : E.fn 66 = some d66
  iflag1 : E.intr 66 = none
  fturn : E.fn 65 = some d65
  iturn : E.intr 65 = none
  fturn1 : E.fn 97 = some d97
  iturn1 : E.intr 97 = none
  fclip : E.fn 44 = some d44
  iclip : E.intr 44 = none
  fEnc : E.fn 29 = some d29
  iEnc : E.intr 29 = none
  fform : E.fn 30 = some d30
  iform : E.intr 30 = none
  fRep : E.fn 18 = some d18
  iRep : E.intr 18 = none
  fr : ∀ d, CallFrame (dcall E d)
abbrev Told := ((Int × Int) × Bool) × (Int × (Int × Int))
def repHd : Nat → DS → Value → Int × Int → Prop := repP repI repI
theorem repHd_ok : RepOk repHd := repP_ok repI_ok repI_ok
theorem repHd_sh : ∀ (o : Nat) (s : DS) (v : Value) (x : Int × Int), repHd o s v x → ∃ n1 n2, v = .agg ⟨[.int .i64 n1, .int .i64 n2]⟩ := fun o s v x ⟨a, b, e, h1, h2⟩ => by
  have h1 : a = .int .i64 x.1 := h1
  have h2 : b = .int .i64 x.2 := h2
  subst h1 h2
  exact ⟨_, _, e⟩
def repHB : Nat → DS → Value → (Int × Int) × Bool → Prop := repP repHd repB
theorem repHB_ok : RepOk repHB := repP_ok repHd_ok repB_ok
theorem repHB_sh : ∀ (o : Nat) (s : DS) (v : Value) (x : (Int × Int) × Bool), repHB o s v x → ∃ n1 n2 n3, v = .agg ⟨[.int .i64 n1, .int .i64 n2, .bool n3]⟩ := fun o s v x ⟨a, b, e, h1, h2⟩ => by
  obtain ⟨n1, n2, rfl⟩ := repHd_sh _ _ _ _ h1
  have h2 : b = .bool x.2 := h2
  subst h2
  exact ⟨_, _, _, e⟩
def repIH : Nat → DS → Value → Int × (Int × Int) → Prop := repP repI repHd
theorem repIH_ok : RepOk repIH := repP_ok repI_ok repHd_ok
theorem repIH_sh : ∀ (o : Nat) (s : DS) (v : Value) (x : Int × (Int × Int)), repIH o s v x → ∃ n1 n2 n3, v = .agg ⟨[.int .i64 n1, .int .i64 n2, .int .i64 n3]⟩ := fun o s v x ⟨a, b, e, h1, h2⟩ => by
  obtain ⟨n1, n2, rfl⟩ := repHd_sh _ _ _ _ h2
  have h1 : a = .int .i64 x.1 := h1
  subst h1
  exact ⟨_, _, _, e⟩
def repTd : Nat → DS → Value → Told → Prop := repP repHB repIH
theorem repTd_ok : RepOk repTd := repP_ok repHB_ok repIH_ok
def okTd (x : Told) : Prop := ((okNum 1 255 x.1.1.1 ∧ okNum 8 0 x.1.1.2) ∧ True) ∧ (okNum 1 255 x.2.1 ∧ (okNum 8 0 x.2.2.1 ∧ okNum 8 0 x.2.2.2))
def encTd (x : Told) : List Int := ((leB x.1.1.1 1 ++ leB x.1.1.2 8) ++ encF x.1.2) ++ (leB x.2.1 1 ++ (leB x.2.2.1 8 ++ leB x.2.2.2 8))
section
variable {E : Env} (hC : CFns E) (hT : TFns E) (hE : EFns E) {s s' : DS} {d : Nat} {t m clock : Nat} {M : TRs}
include hT
theorem mayR_ok (hG : s.Good) (r : Rp) : W (dcall E (d + 3) (.func (.func 28) #[] #[]) [.agg ⟨r.cells⟩] s) fun x => x.1 = .bool (decide (MayR r)) ∧ Ext [] s x.2 := by
  refine W_cps fun Q hQ => ?_
  rw [W_enter0 hT.imayR hT.fmayR rfl]
  have hwho : ∀ S, dcall E (d + 2) (.func (.func 48) #[] #[]) [.int .i64 r.c, .int .i64 r.n] S = some (.bool (decide (Who r.c r.n)), S) := fun S => who_ok hT r.c r.n
  have hin1 : ∀ S, dcall E (d + 2) (.func (.func 49) #[] #[]) [.int .i64 r.trap, .int .i64 0, .int .i64 6] S = some (.bool (decide (0 ≤ r.trap ∧ r.trap ≤ 6)), S) := fun S => within_ok hT (d := d + 1) r.trap 0 6
  have hin2 : ∀ S, dcall E (d + 2) (.func (.func 49) #[] #[]) [.int .i64 r.gas, .int .i64 0, .int .i64 1048576] S = some (.bool (decide (0 ≤ r.gas ∧ r.gas ≤ 1048576)), S) := fun S => within_ok hT (d := d + 1) r.gas 0 1048576
  have h1 : True := trivial
  cases hrej : r.rej with
  | false =>
    have hnr : ¬ (r.rej = true ∧ (r.trap ≠ 0 ∨ r.v ≠ 0 ∨ r.gas ≠ 0)) := fun h => by rw [hrej] at h; cases h.1
    simp (maxSteps := 4000000) (maxDischargeDepth := 8) only [WC_seq, WC_region, WC_cond, WC_skip, contS_normal, contR_ap, WO_nil, WO_pp, WO_g, gateO_ft, condC_false, contO_ap, atS_ap, W_some, W_mv, W_pick, W_fadr, W_ld, W_box, W_call, dpure, ev_tmp, ev_const, ev_func, putT_some, get_put_eq, get_put_ne, not_false_eq_true, ofList_get, List.getElem?_cons_zero, Option.getD_some, List.map_cons, List.map_nil, ldV_at, Cells.get, getN, Nat.zero_add, cells_agg, if_false, Bool.false_eq_true, List.nil_append, pp, pv, pw, pg, nextN, Nat.add_zero, gateO_un, get_new_at, eq_lt, Nat.reduceLT, Nat.lt_add_one, d28, hG, Rp.cells, hrej]
    cases hw : decide (Who r.c r.n) with
    | false =>
      have hno : ¬ MayR r := fun h => by rw [decide_eq_true h.2.1] at hw; cases hw
      rw [decide_eq_false hno] at hQ
      rw [hw] at hwho
      simp (maxSteps := 4000000) (maxDischargeDepth := 8) only [WC_ret, contS_normal, contR_ap, WO_nil, WO_pp, WO_g, gateO_ft, contO_ap, atS_ap, W_some, W_mv, W_pick, dpure, Ends_ret, ev_tmp, ev_const, putT_some, get_put_eq, get_put_ne, not_false_eq_true, Option.getD_some, dresults, tupled, if_false, Bool.false_eq_true, List.nil_append, nextN, eq_lt, Nat.reduceLT, Nat.lt_add_one, hG, hrej, h1, hwho]
      exact hQ _ ⟨rfl, Ext.new⟩
    | true =>
      rw [hw] at hwho
      by_cases c1 : 0 ≤ r.trap ∧ r.trap ≤ 6
      · rw [decide_eq_true c1] at hin1
        by_cases c2 : 0 ≤ r.gas ∧ r.gas ≤ 1048576
        · rw [decide_eq_true c2] at hin2
          have hyes : MayR r := ⟨hnr, of_decide_eq_true hw, c1.1, c1.2, c2.1, c2.2⟩
          rw [decide_eq_true hyes] at hQ
          simp (maxSteps := 4000000) (maxDischargeDepth := 8) only [WC_ret, contS_normal, contR_ap, WO_nil, WO_pp, WO_g, gateO_tt, contO_ap, atS_ap, W_some, W_mv, W_pick, W_fadr, W_ld, W_call, dpure, Ends_ret, ev_tmp, ev_const, ev_func, putT_some, get_put_eq, get_put_ne, not_false_eq_true, Option.getD_some, dresults, tupled, List.map_cons, List.map_nil, ldV_at, Cells.get, getN, Nat.zero_add, if_true, get_new_at, eq_lt, Nat.reduceLT, Nat.lt_add_one, hG, hrej, h1, hwho, hin1, hin2]
          exact hQ _ ⟨rfl, Ext.new⟩
        · rw [decide_eq_false c2] at hin2
          have hno : ¬ MayR r := fun h => c2 ⟨h.2.2.2.2.1, h.2.2.2.2.2⟩
          rw [decide_eq_false hno] at hQ
          simp (maxSteps := 4000000) (maxDischargeDepth := 8) only [WC_ret, contS_normal, contR_ap, WO_nil, WO_pp, WO_g, gateO_tt, contO_ap, atS_ap, W_some, W_mv, W_pick, W_fadr, W_ld, W_call, dpure, Ends_ret, ev_tmp, ev_const, ev_func, putT_some, get_put_eq, get_put_ne, not_false_eq_true, Option.getD_some, dresults, tupled, List.map_cons, List.map_nil, ldV_at, Cells.get, getN, Nat.zero_add, if_true, get_new_at, eq_lt, Nat.reduceLT, Nat.lt_add_one, hG, hrej, h1, hwho, hin1, hin2]
          exact hQ _ ⟨rfl, Ext.new⟩
      · rw [decide_eq_false c1] at hin1
        have hno : ¬ MayR r := fun h => c1 ⟨h.2.2.1, h.2.2.2.1⟩
        rw [decide_eq_false hno] at hQ
        simp (maxSteps := 4000000) (maxDischargeDepth := 8) only [WC_ret, contS_normal, contR_ap, WO_nil, WO_pp, WO_g, gateO_tt, gateO_ft, contO_ap, atS_ap, W_some, W_mv, W_pick, W_fadr, W_ld, W_call, dpure, Ends_ret, ev_tmp, ev_const, ev_func, putT_some, get_put_eq, get_put_ne, not_false_eq_true, Option.getD_some, dresults, tupled, List.map_cons, List.map_nil, ldV_at, Cells.get, getN, Nat.zero_add, if_true, if_false, Bool.false_eq_true, List.nil_append, nextN, get_new_at, eq_lt, Nat.reduceLT, Nat.lt_add_one, hG, hrej, h1, hwho, hin1]
        exact hQ _ ⟨rfl, Ext.new⟩
  | true =>
    by_cases a1 : r.trap = 0
    · by_cases a2 : r.v = 0
      · by_cases a3 : r.gas = 0
        · have hnr : ¬ (r.rej = true ∧ (r.trap ≠ 0 ∨ r.v ≠ 0 ∨ r.gas ≠ 0)) := fun h => by rcases h.2 with h | h | h <;> contradiction
          have e1 : decide (0 ≤ r.trap ∧ r.trap ≤ 6) = true := decide_eq_true (by omega)
          have e2 : decide (0 ≤ r.gas ∧ r.gas ≤ 1048576) = true := decide_eq_true (by omega)
          rw [e1, a1] at hin1
          rw [e2, a3] at hin2
          cases hw : decide (Who r.c r.n) with
          | false =>
            have hno : ¬ MayR r := fun h => by rw [decide_eq_true h.2.1] at hw; cases hw
            rw [decide_eq_false hno] at hQ
            rw [hw] at hwho
            simp (maxSteps := 4000000) (maxDischargeDepth := 8) only [WC_seq, WC_region, WC_cond, WC_skip, WC_ret, contS_normal, contR_ap, WO_nil, WO_pp, WO_g, gateO_tt, gateO_ft, gateO_ff, condC_false, contO_ap, atS_ap, W_some, W_mv, W_pick, W_bin, W_fadr, W_ld, W_box, W_call, dpure, dbin, dint, Ends_ret, ev_tmp, ev_const, ev_func, putT_some, get_put_eq, get_put_ne, not_false_eq_true, ofList_get, List.getElem?_cons_zero, Option.getD_some, dresults, tupled, List.map_cons, List.map_nil, ldV_at, Cells.get, getN, Nat.zero_add, cells_agg, if_true, if_false, Bool.not_true, Bool.false_eq_true, List.nil_append, pp, pv, pw, pg, nextN, Nat.add_zero, decide_true, get_new_at, eq_lt, Nat.reduceLT, Nat.lt_add_one, d28, hG, Rp.cells, hrej, a1, a2, a3, hwho]
            exact hQ _ ⟨rfl, Ext.new⟩
          | true =>
            rw [hw] at hwho
            have hyes : MayR r := ⟨hnr, of_decide_eq_true hw, by omega, by omega, by omega, by omega⟩
            rw [decide_eq_true hyes] at hQ
            simp (maxSteps := 4000000) (maxDischargeDepth := 8) only [WC_seq, WC_region, WC_cond, WC_skip, WC_ret, contS_normal, contR_ap, WO_nil, WO_pp, WO_g, gateO_tt, gateO_ff, condC_false, contO_ap, atS_ap, W_some, W_mv, W_pick, W_bin, W_fadr, W_ld, W_box, W_call, dpure, dbin, dint, Ends_ret, ev_tmp, ev_const, ev_func, putT_some, get_put_eq, get_put_ne, not_false_eq_true, ofList_get, List.getElem?_cons_zero, Option.getD_some, dresults, tupled, List.map_cons, List.map_nil, ldV_at, Cells.get, getN, Nat.zero_add, cells_agg, if_true, if_false, Bool.not_true, Bool.false_eq_true, pp, pv, pw, pg, Nat.add_zero, decide_true, get_new_at, eq_lt, Nat.reduceLT, Nat.lt_add_one, d28, hG, Rp.cells, hrej, a1, a2, a3, hwho, hin1, hin2]
            exact hQ _ ⟨rfl, Ext.new⟩
        · have hno : ¬ MayR r := fun h => h.1 ⟨hrej, .inr (.inr a3)⟩
          simp (maxSteps := 4000000) (maxDischargeDepth := 8) only [WC_seq, WC_region, WC_cond, WC_ret, contS_normal, contS_ret, contR_ap, WO_nil, WO_pp, WO_g, gateO_tt, gateO_ff, condC_true, contO_ap, atS_ap, W_some, W_mv, W_pick, W_bin, W_fadr, W_ld, W_box, dpure, dbin, dint, Ends_ret, ev_tmp, ev_const, putT_some, get_put_eq, get_put_ne, not_false_eq_true, ofList_get, List.getElem?_cons_zero, Option.getD_some, dresults, tupled, ldV_at, Cells.get, getN, Nat.zero_add, cells_agg, if_true, if_false, Bool.not_true, Bool.not_false, Bool.false_eq_true, pp, pv, pw, pg, decide_true, decide_false, get_new_at, eq_lt, Nat.reduceLT, Nat.lt_add_one, d28, hG, Rp.cells, hrej, a1, a2, a3]
          rw [decide_eq_false hno] at hQ
          exact hQ _ ⟨rfl, Ext.new⟩
      · have hno : ¬ MayR r := fun h => h.1 ⟨hrej, .inr (.inl a2)⟩
        simp (maxSteps := 4000000) (maxDischargeDepth := 8) only [WC_seq, WC_region, WC_cond, WC_ret, contS_normal, contS_ret, contR_ap, WO_nil, WO_pp, WO_g, gateO_tt, gateO_tf, gateO_ff, condC_true, contO_ap, atS_ap, W_some, W_mv, W_pick, W_bin, W_fadr, W_ld, W_box, dpure, dbin, dint, Ends_ret, ev_tmp, ev_const, putT_some, get_put_eq, get_put_ne, not_false_eq_true, ofList_get, List.getElem?_cons_zero, Option.getD_some, dresults, tupled, ldV_at, Cells.get, getN, Nat.zero_add, cells_agg, if_true, if_false, Bool.not_true, Bool.not_false, Bool.false_eq_true, List.nil_append, pp, pv, pw, pg, nextN, decide_true, decide_false, get_new_at, eq_lt, Nat.reduceLT, Nat.lt_add_one, d28, hG, Rp.cells, hrej, a1, a2]
        rw [decide_eq_false hno] at hQ
        exact hQ _ ⟨rfl, Ext.new⟩
    · have hno : ¬ MayR r := fun h => h.1 ⟨hrej, .inl a1⟩
      simp (maxSteps := 4000000) (maxDischargeDepth := 8) only [WC_seq, WC_region, WC_cond, WC_ret, contS_normal, contS_ret, contR_ap, WO_nil, WO_pp, WO_g, gateO_tt, gateO_tf, condC_true, contO_ap, atS_ap, W_some, W_mv, W_pick, W_bin, W_fadr, W_ld, W_box, dpure, dbin, dint, Ends_ret, ev_tmp, ev_const, putT_some, get_put_eq, get_put_ne, not_false_eq_true, ofList_get, List.getElem?_cons_zero, Option.getD_some, dresults, tupled, ldV_at, Cells.get, getN, Nat.zero_add, cells_agg, if_true, if_false, Bool.not_false, Bool.false_eq_true, List.nil_append, pp, pv, pw, pg, nextN, decide_false, get_new_at, eq_lt, Nat.reduceLT, Nat.lt_add_one, d28, hG, Rp.cells, hrej, a1]
      rw [decide_eq_false hno] at hQ
      exact hQ _ ⟨rfl, Ext.new⟩
include hC hE
theorem form_ok (hG : s.Good) : W (dcall E (d + 3) (.func (.func 30) #[] #[]) [] s) fun r => FieldOk E 6 s.next r.2 r.1 repTd okTd encTd ∧ Ext [] s r.2 := by
  refine W_cps fun Q hQ => ?_
  rw [W_enter0 hE.iform hE.fform rfl]
  simp (maxSteps := 4000000) (maxDischargeDepth := 8) only [WC_seq, WC_region, contS_normal, contR_ap, WO_nil, WO_pp, contO_ap, W_alloc, W_call, ev_func, putT_some, List.map_nil, pp, d30, hG]
  have h0 : ∀ o, (s.new o).get s.next = some o := fun o => DS.new_get_self hG
  have w0 : (s.new (.cells (.list [.nilFunc, .nilFunc]) false)).wr s.next = true := (hG _ (Nat.le_refl _)).2
  refine W.mono (num38_field hC (m := s.next + 1) (DS.new_good hG) (Nat.le_refl _) hE.fbyte hE.ibyte) ?_
  rintro ⟨v1, s1⟩ ⟨q1, X1⟩
  simp only at q1 X1
  have hG1 := X1.good (DS.new_good hG)
  have l1 : s.next + 1 ≤ s1.next := X1.le
  simp (maxSteps := 4000000) only [WO_pp, contO_ap, W_call, ev_func, putT_some, List.map_nil]
  refine W.mono (num39_field hC (m := s.next + 1) hG1 l1 hE.fint hE.iint) ?_
  rintro ⟨v2, s2⟩ ⟨q2, X2⟩
  simp only at q2 X2
  have hG2 := X2.good hG1
  have l2 := Nat.le_trans l1 X2.le
  simp (maxSteps := 4000000) only [WO_pp, contO_ap, W_call, ev_tmp, ev_func, putT_some, get_put_eq, get_put_ne, Nat.reduceEqDiff, not_false_eq_true, Option.getD_some, List.map_cons, List.map_nil]
  refine W.mono (both37_field hC l2 hG2 (q1.keep X2) q2 hE.fII hE.iII fun ha hb => both37_put hC ha hb repI_ok repI_ok (fun _ _ _ x h => ⟨x, h⟩) (fun _ _ _ x h => ⟨x, h⟩) hE.fII1 hE.iII1) ?_
  rintro ⟨v3, s3⟩ ⟨q3, X3⟩
  simp only at q3 X3
  have hG3 := X3.good hG2
  have l3 := Nat.le_trans l2 X3.le
  simp (maxSteps := 4000000) only [WO_pp, contO_ap, W_call, ev_func, putT_some, List.map_nil]
  refine W.mono (flag_field hC hG3 l3 hE.fflag hE.iflag hE.fturn hE.iturn hE.fturn1 hE.iturn1 hE.fflag1 hE.iflag1 hE.fr) ?_
  rintro ⟨v4, s4⟩ ⟨q4, X4⟩
  simp only at q4 X4
  have hG4 := X4.good hG3
  have l4 := Nat.le_trans l3 X4.le
  simp (maxSteps := 4000000) only [WO_pp, contO_ap, W_call, ev_tmp, ev_func, putT_some, get_put_eq, get_put_ne, Nat.reduceEqDiff, not_false_eq_true, Option.getD_some, List.map_cons, List.map_nil]
  refine W.mono (both51_field hC l4 hG4 (q3.keep X4) q4 hE.fHB hE.iHB fun ha hb => both51_put hC ha hb repHd_ok repB_ok repHd_sh (fun _ _ _ x h => ⟨x, h⟩) hE.fHB1 hE.iHB1) ?_
  rintro ⟨v5, s5⟩ ⟨q5, X5⟩
  simp only at q5 X5
  have hG5 := X5.good hG4
  have l5 := Nat.le_trans l4 X5.le
  simp (maxSteps := 4000000) only [WO_pp, contO_ap, W_call, ev_func, putT_some, List.map_nil]
  refine W.mono (num38_field hC (m := s.next + 1) hG5 l5 hE.fbyte hE.ibyte) ?_
  rintro ⟨v6, s6⟩ ⟨q6, X6⟩
  simp only at q6 X6
  have hG6 := X6.good hG5
  have l6 := Nat.le_trans l5 X6.le
  simp (maxSteps := 4000000) only [WO_pp, contO_ap, W_call, ev_func, putT_some, List.map_nil]
  refine W.mono (num39_field hC (m := s.next + 1) hG6 l6 hE.fint hE.iint) ?_
  rintro ⟨v7, s7⟩ ⟨q7, X7⟩
  simp only at q7 X7
  have hG7 := X7.good hG6
  have l7 := Nat.le_trans l6 X7.le
  simp (maxSteps := 4000000) only [WO_pp, contO_ap, W_call, ev_func, putT_some, List.map_nil]
  refine W.mono (num39_field hC (m := s.next + 1) hG7 l7 hE.fint hE.iint) ?_
  rintro ⟨v8, s8⟩ ⟨q8, X8⟩
  simp only at q8 X8
  have hG8 := X8.good hG7
  have l8 := Nat.le_trans l7 X8.le
  simp (maxSteps := 4000000) only [WO_pp, contO_ap, W_call, ev_tmp, ev_func, putT_some, get_put_eq, get_put_ne, Nat.reduceEqDiff, not_false_eq_true, Option.getD_some, List.map_cons, List.map_nil]
  refine W.mono (both37_field hC l8 hG8 (q7.keep X8) q8 hE.fII hE.iII fun ha hb => both37_put hC ha hb repI_ok repI_ok (fun _ _ _ x h => ⟨x, h⟩) (fun _ _ _ x h => ⟨x, h⟩) hE.fII1 hE.iII1) ?_
  rintro ⟨v9, s9⟩ ⟨q9, X9⟩
  simp only at q9 X9
  have hG9 := X9.good hG8
  have l9 := Nat.le_trans l8 X9.le
  simp (maxSteps := 4000000) only [WO_pp, contO_ap, W_call, ev_tmp, ev_func, putT_some, get_put_eq, get_put_ne, Nat.reduceEqDiff, not_false_eq_true, Option.getD_some, List.map_cons, List.map_nil]
  refine W.mono (both52_field hC l9 hG9 ((q6.keep (X7.trans' (X8.trans' X9))).mono (show 3 ≤ 4 by omega)) q9 hE.fIH hE.iIH fun ha hb => both52_put hC ha hb repI_ok repHd_ok (fun _ _ _ x h => ⟨x, h⟩) repHd_sh hE.fIH1 hE.iIH1) ?_
  rintro ⟨va, sa⟩ ⟨qa, Xa⟩
  simp only at qa Xa
  have hGa := Xa.good hG9
  have la := Nat.le_trans l9 Xa.le
  have X5a := X6.trans' (X7.trans' (X8.trans' (X9.trans' Xa)))
  simp (maxSteps := 4000000) only [WO_pp, contO_ap, W_call, ev_tmp, ev_func, putT_some, get_put_eq, get_put_ne, Nat.reduceEqDiff, not_false_eq_true, Option.getD_some, List.map_cons, List.map_nil]
  refine W.mono (both50_field hC la hGa (q5.keep X5a) qa hE.fTT hE.iTT fun ha hb => both50_put hC ha hb repHB_ok repIH_ok repHB_sh repIH_sh hE.fTT1 hE.iTT1) ?_
  rintro ⟨vb, sb⟩ ⟨qb, Xb⟩
  simp only at qb Xb
  have X0b := (X1.trans' (X2.trans' (X3.trans' (X4.trans' X5)))).trans' (X5a.trans' Xb)
  have g6 := X0b.keep (h0 _) (by simp)
  have w6 := X0b.wrs w0
  obtain ⟨f, a, b, g, a', b', D, rfl, k2, k3, k4⟩ := qb
  simp (maxSteps := 4000000) (maxDischargeDepth := 8) only [WC_ret, contS_normal, contR_ap, WO_nil, WO_pp, contO_ap, atD_ap, W_some, W_st, dread, Ends_ret, ev_tmp, putT_some, putT_none, get_put_eq, get_put_ne, not_false_eq_true, Option.getD_some, dresults, tupled, Cells.get, getN, Nat.zero_add, Nat.reduceAdd, st_wr, cells_agg, List.length_cons, List.length_nil, allOne, oneCellD, Bool.and_self, Bool.and_true, Nat.beq_eq, Nat.ble_eq, Nat.le_refl, if_true, DS.wrC, Cells.size, Cells.fillFrom, Cells.set, setN, DS.upd_get_self, Option.map_some, DS.read, Cells.take, eq_lt, Nat.lt_add_one, Nat.succ_pos, g6, w6]
  have XF : ∀ o, Ext [] s (sb.upd s.next o) := fun o => (Ext.new.trans' X0b).trans (Ext.upd (F := [s.next]) (.inl (by simp))) (by simp)
  refine hQ _ ⟨⟨f, a, b, g, a', b', D, rfl, fun p hp => ?_, fun p hp => ?_, k4⟩, XF _⟩
  · have := (k3 p hp).1
    simp (maxSteps := 4000000) (maxDischargeDepth := 8) only [not_false_eq_true, DS.upd_get_ne, k2 p hp, show ¬ p.1 = s.next by omega]
  · have := k3 p hp
    simp (maxSteps := 4000000) (maxDischargeDepth := 8) only [DS.upd_next]
    omega
omit hT hC hE in
theorem mask_wrE {s : DS} {nt : List Note} {haz : List Nat} {k : Nat} : (mask s nt haz).wr k = (s.wr k && !hidden nt haz k && !shielded nt haz k) := Eq.trans rfl rfl
omit hT hC hE in
theorem unmask_updE {s : DS} {nt : List Note} {haz : List Nat} {k : Nat} {o : DObj} (h : hidden nt haz k = false) : unmask s ((mask s nt haz).upd k o) = s.upd k o := by
  unfold DS.upd
  rw [mask_get h]
  split <;> rfl
theorem encrep_ok (hG : s.Good) (r : Rp) : W (dcall E (d + 9) (.func (.func 18) #[] #[]) [.agg ⟨r.cells⟩] s) fun x => (∃ w, x.1 = .tuple ⟨[w, .int .i64 (if MayR r then 0 else 1)]⟩) ∧ Ext [] s x.2 := by
  refine W_cps fun Q hQ => ?_
  rw [W_enter0 hE.iRep hE.fRep rfl]
  simp (maxSteps := 4000000) (maxDischargeDepth := 8) only [WC_seq, WC_region, contS_normal, contR_ap, WO_nil, WO_pp, contO_ap, atS_ap, W_some, W_mv, W_box, W_call, ev_tmp, ev_const, ev_func, putT_some, get_put_eq, get_put_ne, not_false_eq_true, ofList_get, List.getElem?_cons_zero, Option.getD_some, List.map_cons, List.map_nil, Cells.get, getN, cells_agg, pp, W_ldA, ldA, DS.read, Cells.take, get_new_at, eq_lt, Nat.reduceLT, Nat.lt_add_one, d18, hG, Rp.cells]
  obtain ⟨S0, hS0⟩ : ∃ S0 : DS, S0 = s.new (.cells (.list [.int .i64 r.c, .int .i64 r.n, .bool r.rej, .int .i64 r.trap, .int .i64 r.v, .int .i64 r.gas]) false) := ⟨_, rfl⟩
  rw [← hS0]
  have X0 : Ext [] s S0 := by rw [hS0]; exact Ext.new
  have hG0 := X0.good hG
  have g0 : S0.get s.next = some (.cells (.list [.int .i64 r.c, .int .i64 r.n, .bool r.rej, .int .i64 r.trap, .int .i64 r.v, .int .i64 r.gas]) false) := by rw [hS0]; simp (maxSteps := 4000000) (maxDischargeDepth := 8) only [get_new_at, hG]
  clear hS0
  refine W.mono (mayR_ok hT (d := d + 5) hG0 r) ?_
  rintro ⟨v1, s1⟩ ⟨h1, X1⟩
  simp only at h1 X1
  subst h1
  have X01 := X0.trans' X1
  have hG1 := X01.good hG
  have g1 := X1.keep g0 (by simp)
  have hl1 : s.next < s1.next := DS.get_lt' g1
  by_cases hmay : MayR r
  · rw [if_pos hmay] at hQ
    rw [decide_eq_true hmay]
    have hb1 : Nat.ble (s1.next + 1) s1.next = false := by rw [bleF]; omega
    have hb2 : Nat.beq s.next s1.next = false := by rw [beqF]; omega
    have hb3 : Nat.ble (s1.next + 1) s.next = false := by rw [bleF]; omega
    simp (maxSteps := 4000000) (maxDischargeDepth := 8) only [WC_seq, WC_region, WC_cond, WC_skip, contS_normal, contR_ap, WO_nil, WO_pp, WO_pn, WO_hn, condC_false, contO_ap, contN_ap, contHN_ap, atS_ap, atD_ap, atG_ap, W_some, W_un, W_build, W_fadr, W_ld, W_st, W_alloc, W_call, dpure, ev_tmp, ev_func, putT_some, putT_none, get_put_eq, get_put_ne, not_false_eq_true, Option.getD_some, List.map_nil, ldV_at, Cells.get, getN, Nat.zero_add, Nat.reduceAdd, st_wr, cells_int, cells_bool, cells_agg, List.length_cons, List.length_nil, allOne, oneCellD, Bool.and_self, Bool.and_true, Bool.and_eq_true, Nat.beq_eq, Nat.ble_eq, Nat.reduceLeDiff, Nat.le_refl, and_self, if_true, Bool.not_true, Bool.not_false, DS.wrC, Cells.size, Cells.fillFrom, Cells.set, setN, fillParts, List.take_zero, List.take_succ_cons, List.drop_succ_cons, List.drop_zero, List.nil_append, List.cons_append, List.drop_nil, List.append_nil, DS.upd_get_self, DS.upd_get_ne, DS.upd_next, DS.upd_wr, Option.map_some, nextN, wrN, nextM, W_ldA, ldA, Nat.add_zero, foot, mask_get, hidden, noteAt, Bool.or_false, Bool.false_and, DS.read, Cells.take, get_new_at, get_new_ne, good_new, DS.upd_good, good_at, eq_lt, eq_gt, Nat.reduceLT, Nat.lt_add_one, hG1, g1, hl1, mask_wrE, unmask_updE, shielded, memN, hb1, hb2, hb3, Bool.not_false, Bool.and_true]
    obtain ⟨S3, hS3⟩ : ∃ S3 : DS, S3 = ((((((s1.new (.cells (.list [.int .i64 0, .int .i64 0, .bool false, .int .i64 0, .int .i64 0, .int .i64 0]) false)).upd s1.next (.cells (.list [.int .i64 0, .int .i64 0, .bool false, .int .i64 0, .int .i64 0, .int .i64 0]) false)).upd s1.next (.cells (.list [.int .i64 r.c, .int .i64 r.n, .bool false, .int .i64 0, .int .i64 0, .int .i64 0]) false)).upd s1.next (.cells (.list [.int .i64 r.c, .int .i64 r.n, .bool r.rej, .int .i64 0, .int .i64 0, .int .i64 0]) false)).upd s1.next (.cells (.list [.int .i64 r.c, .int .i64 r.n, .bool r.rej, .int .i64 r.trap, .int .i64 0, .int .i64 0]) false)).upd s1.next (.cells (.list [.int .i64 r.c, .int .i64 r.n, .bool r.rej, .int .i64 r.trap, .int .i64 r.v, .int .i64 r.gas]) false)) := ⟨_, rfl⟩
    rw [← hS3]
    have X3 : Ext [] s1 S3 := by
      rw [hS3]
      have y : ∀ (S : DS) o, Ext [s1.next] S (S.upd s1.next o) := fun S o => Ext.upd (.inl (by simp))
      exact (Ext.new (F := [])).trans ((y _ _).trans' ((y _ _).trans' ((y _ _).trans' ((y _ _).trans' (y _ _))))) (by simp)
    have hG3 := X3.good hG1
    have n3 : S3.next = s1.next + 1 := by rw [hS3]; simp (maxSteps := 4000000) (maxDischargeDepth := 8) only [DS.upd_next, nextN]
    clear hS3
    have hhid : ∀ k, hidden [⟨[s1.next], s1.next + 1, s1.next + 1⟩] [0] k = false := fun k => by (simp only [hidden, shielded, noteAt, memN, Bool.or_false, Bool.or_eq_false_iff, Bool.and_eq_false_iff, bleF, bltF, beqF, true_and, and_true, true_or, or_true] <;> omega)
    refine W.masked (hE.fr _) (form_ok hC hT hE (d := d + 5) (mask_good hG3 fun k hk => ⟨hhid k, ?_⟩)) ?_
    · have : ¬ k = s1.next := by omega
      (simp only [hidden, shielded, noteAt, memN, Bool.or_false, Bool.or_eq_false_iff, Bool.and_eq_false_iff, bleF, bltF, beqF, true_and, and_true, true_or, or_true] <;> omega)
    rintro v4 s4 ⟨h4, X4⟩ df
    simp only at h4 X4
    have X4' := Ext.unmask' X4 df
    obtain ⟨S4, hS4⟩ : ∃ S4 : DS, S4 = unmask S3 s4 := ⟨_, rfl⟩
    have n4 : s4.next = S4.next := by rw [hS4]; rfl
    have h4' : FieldOk E 6 S3.next S4 v4 repTd okTd encTd := by
      rw [hS4]
      obtain ⟨f, a, b, g, a', b', D, e1, e2, e3, e4⟩ := h4
      exact ⟨f, a, b, g, a', b', D, e1, fun p hp => (unmask_same hhid X4).trans (e2 p hp), fun p hp => e3 p hp, e4⟩
    rw [← hS4] at X4'
    have hG4 := X4'.good hG3
    simp (maxSteps := 4000000) only [WO_pn, contHN_ap, W_call, ev_tmp, ev_func, putT_some, get_put_eq, get_put_ne, Nat.reduceEqDiff, not_false_eq_true, Option.getD_some, List.map_cons, List.map_nil, List.nil_append, List.cons_append, foot, ← hS4, n4]
    have hrep : repTd S4.next S4 (.agg ⟨[.int .i64 r.c, .int .i64 r.n, .bool r.rej, .int .i64 r.trap, .int .i64 r.v, .int .i64 r.gas]⟩) (((r.c, r.n), r.rej), (r.trap, (r.v, r.gas))) :=
      ⟨.agg ⟨[.int .i64 r.c, .int .i64 r.n, .bool r.rej]⟩, .agg ⟨[.int .i64 r.trap, .int .i64 r.v, .int .i64 r.gas]⟩, rfl, ⟨.agg ⟨[.int .i64 r.c, .int .i64 r.n]⟩, .bool r.rej, rfl, ⟨.int .i64 r.c, .int .i64 r.n, rfl, rfl, rfl⟩, rfl⟩, ⟨.int .i64 r.trap, .agg ⟨[.int .i64 r.v, .int .i64 r.gas]⟩, rfl, rfl, ⟨.int .i64 r.v, .int .i64 r.gas, rfl, rfl, rfl⟩⟩⟩
    obtain ⟨_, ⟨w1, w2, w3, w4⟩, w5, w6, w7, w8⟩ := hmay
    have hok : okTd (((r.c, r.n), r.rej), (r.trap, (r.v, r.gas))) := ⟨⟨⟨.inr ⟨w1, by show r.c ≤ 255; omega⟩, .inl rfl⟩, trivial⟩, .inr ⟨w5, by show r.trap ≤ 255; omega⟩, .inl rfl, .inl rfl⟩
    have hlen : (encTd (((r.c, r.n), r.rej), (r.trap, (r.v, r.gas)))).length ≤ 1048576 := by
      simp only [encTd, encF, List.length_append, leB_len]
      omega
    refine W.mono (encode29_ok hC (d := d) hG4 h4' hrep repTd_ok hok hlen rfl hE.fEnc hE.iEnc hE.fclip hE.iclip) ?_
    rintro ⟨v5, s5⟩ ⟨w, h5, _, _, _, X5⟩
    simp only at h5 X5
    subst h5
    simp (maxSteps := 4000000) only [WC_ret, contS_normal, contR_ap, WO_nil, WO_pn, contN_ap, atS_ap, W_some, W_mv, W_ext, dpure, Ends_ret, ev_tmp, putT_some, get_put_eq, get_put_ne, Nat.reduceEqDiff, not_false_eq_true, Option.getD_some, dresults, tupled, getN, List.nil_append, List.cons_append, foot]
    exact hQ _ ⟨⟨_, rfl⟩, X01.trans' (X3.trans' (X4'.trans' X5))⟩
  · rw [if_neg hmay] at hQ
    rw [decide_eq_false hmay]
    simp (maxSteps := 4000000) only [WC_seq, WC_region, WC_cond, WC_ret, contS_normal, contS_ret, contR_ap, WO_nil, WO_pp, condC_true, contO_ap, atS_ap, W_some, W_mv, W_un, dpure, Ends_ret, ev_tmp, ev_const, putT_some, get_put_eq, get_put_ne, Nat.reduceEqDiff, not_false_eq_true, Option.getD_some, dresults, tupled, Bool.not_false]
    exact hQ _ ⟨⟨_, rfl⟩, X01⟩
end
end Go.Dx.TbA
