/- TableRises, at the evaluator's level (made by tools/gen.py out of rises.t). -/
import Derived.Test.YtmdkppjohmfhpaaGreatT1Fin
import Derived.Test.YtmdkppjohmfhpaaGreatDxTopM
set_option linter.unusedVariables false
set_option linter.unusedSimpArgs false
set_option linter.unusedSectionVars false
set_option maxRecDepth 100000
set_option maxHeartbeats 4000000
namespace Go.Dx.TbA
open Go Go.Dx Go.Dx.Tab Go.Proofs.YtmdkppjohmfhpaaGreat
abbrev opKs : List Kd := [.int .i64, .int .i64, .int .i64, .int .i64, .int .i64, .bool, .int .i64, .int .i64, .int .i64]
theorem InRow.keep {s s' : DS} {F : List Nat} {v : Value} {l : List (List Value)} (h : InRow s v l) (e : Ext F s s') (hF : ∀ k, k ∈ F → ∀ c, s.get k ≠ some (.cells c true)) : InRow s' v l := by
  rcases h with h | ⟨b, c, h1, h2⟩
  · exact .inl h
  · exact .inr ⟨b, c, h1, e.keep h2 fun hb => hF b hb _ h2⟩
theorem row9 {s : DS} {v0 : Value} {l : List (List Value)} (hr : InRow s v0 l) (hl : ∀ x, x ∈ l → FitK opKs x) {i : Nat} (hi : i < l.length) :
    ∃ (k c n : Int) (r : Rp) (vb vc : Nat), v0 = .slice (some ⟨vb, 0, none⟩) l.length vc ∧ s.get vb = some (.cells (.list l.flatten) true) ∧ ldA 9 (.pointer (some ⟨vb, i * 9, none⟩)) s = some (.agg ⟨.int .i64 k :: .int .i64 c :: .int .i64 n :: r.cells⟩) := by
  obtain ⟨x, hx⟩ : ∃ x, l[i]? = some x := ⟨l[i], List.getElem?_eq_getElem hi⟩
  have hfx := hl x (List.mem_of_getElem? hx)
  obtain ⟨x0, r0, rfl, ⟨k, rfl, _⟩, hf0⟩ := FitK.cons hfx
  obtain ⟨x1, r1, rfl, ⟨c, rfl, _⟩, hf1⟩ := FitK.cons hf0
  obtain ⟨x2, r2, rfl, ⟨n, rfl, _⟩, hf2⟩ := FitK.cons hf1
  obtain ⟨x3, r3, rfl, ⟨a, rfl, _⟩, hf3⟩ := FitK.cons hf2
  obtain ⟨x4, r4, rfl, ⟨b, rfl, _⟩, hf4⟩ := FitK.cons hf3
  obtain ⟨x5, r5, rfl, ⟨j, rfl⟩, hf5⟩ := FitK.cons hf4
  obtain ⟨x6, r6, rfl, ⟨e, rfl, _⟩, hf6⟩ := FitK.cons hf5
  obtain ⟨x7, r7, rfl, ⟨f, rfl, _⟩, hf7⟩ := FitK.cons hf6
  obtain ⟨x8, r8, rfl, ⟨g, rfl, _⟩, hf8⟩ := FitK.cons hf7
  obtain rfl := FitK.nil hf8
  have hm9 : ∀ y, y ∈ l → y.length = 9 := fun y hy => FitK.length (hl y hy)
  rcases hr with ⟨_, rfl⟩ | ⟨vb, vc, rfl, hb⟩
  · simp at hx
  · have hlen : l.flatten.length = l.length * 9 := flatten_len hm9
    have hrd : s.read vb 0 (l.length * 9) = some l.flatten := by
      unfold DS.read
      rw [hb]
      simp only
      rw [take_list _ _ _ (by omega)]
      simp only [List.drop_zero]
      rw [List.take_of_length_le (by omega)]
    have h := row_read hrd hm9 hx
    rw [Nat.zero_add] at h
    refine ⟨k, c, n, ⟨a, b, j, e, f, g⟩, vb, vc, rfl, hb, ?_⟩
    unfold ldA
    simp only [h]
    rfl
structure RisesI (s0 : DS) (t m dm : Nat) (v0 : Value) (l : List (List Value)) (n : Nat) (x : St) : Prop where
  ex : ∃ (i : Nat) (M : TRs) (clock : Nat) (D : List ((Int × Int) × Nat)) (dclk : Nat), n = 201 - i ∧ i ≤ 200 ∧ i ≤ l.length ∧ x.defers = [] ∧
    (x.t.get 0 = some v0 ∧ x.t.get 3 = some (.pointer (some ⟨t, 0, none⟩)) ∧ x.t.get 4 = some (.map (some dm)) ∧ x.t.get 5 = some (.int .i64 (i : Int))) ∧
    TabAt x.s t m M clock ∧ x.s.get dm = some (.map (D.map prE) dclk) ∧ DoneOk M D ∧ Ext [m, dm] s0 x.s
section
variable {E : Env} (hC : CFns E) (hT : TFns E) (hE : EFns E) {s : DS} {d : Nat}
include hC hT hE
theorem risesLaw (f3 : E.fn 3 = some d3) (i3 : E.intr 3 = none) (h6 : E.intr 6 = some trueD) (hG : s.Good) {v0 : Value} {l : List (List Value)} (hr : InRow s v0 l) (hl : ∀ x, x ∈ l → FitK opKs x) :
    W (dcall E (d + 12) (.func (.func 3) #[] #[]) [v0] s) fun r => r.1 = .bool true := by
  have lv : ∀ dd s, dcall E (dd + 1) (.func (.func 6) #[] #[]) [] s = some (.bool true, s) := fun _ _ => intr_run h6 rfl
  have hlf := hC.lf
  rw [W_enter0 i3 f3 rfl]
  simp (maxSteps := 4000000) only [WC_seq, WC_region, contS_normal, contR_ap, WO_nil, WO_pp, contO_ap, W_mv, W_call, ev_const, ev_func, putT_some, List.map_nil, pp, pv, pw, pg, d3]
  refine W.mono (tnew_ok hT (d := d + 10) hG) ?_
  rintro ⟨r, s1⟩ ⟨hr', ct, X1⟩
  simp only at hr' ct X1
  subst hr'
  have hG1 := X1.good hG
  simp (maxSteps := 4000000) (maxDischargeDepth := 8) only [WC_seq, WC_region, WC_cond, WC_block, WC_skip, contS_normal, contR_ap, WO_nil, WO_pp, WO_g, gateO_ff, condC_false, contO_ap, atS_ap, atB_ap, W_some, W_mv, W_pick, W_eq1, W_un, W_mkmap, W_call, dpure, eqOne, ev_tmp, ev_const, ev_func, putT_some, get_put_eq, get_put_ne, not_false_eq_true, Option.getD_some, List.map_nil, if_false, Bool.not_true, Bool.not_false, Bool.false_eq_true, eq_lt, Nat.reduceLT, Nat.lt_add_one, lv, hG1]
  have XN : Ext [] s1 (s1.new (.map [] 0)) := Ext.new
  obtain ⟨S2, hS2⟩ : ∃ S2 : DS, S2 = s1.new (.map [] 0) := ⟨_, rfl⟩
  rw [← hS2] at XN ⊢
  have hG2 := XN.good hG1
  have gd2 : S2.get s1.next = some (.map (([] : List ((Int × Int) × Nat)).map prE) 0) := by rw [hS2]; exact DS.new_get_self hG1
  have wd2 : S2.wr s1.next = true := XN.wrs (hG1 _ (Nat.le_refl _)).2
  clear hS2
  have ct2 := ct.keep XN (by simp) (by simp)
  have hml := DS.get_lt' ct.gm
  have htl := DS.get_lt' ct.go
  have hr2 := InRow.keep hr (X1.trans' XN) (by simp)
  obtain ⟨t, ht⟩ : ∃ t, t = s.next + 1 := ⟨_, rfl⟩
  obtain ⟨m, hm⟩ : ∃ m, m = s.next := ⟨_, rfl⟩
  obtain ⟨dm, hdm⟩ : ∃ dm, dm = s1.next := ⟨_, rfl⟩
  rw [← ht, ← hm] at ct2
  rw [← hdm] at gd2 wd2 ⊢
  rw [← ht]
  have htm : t ≠ m := by omega
  have htd : t ≠ dm := by omega
  have hmd : m ≠ dm := by omega
  have hno : ∀ k, k ∈ [m, dm] → ∀ c, S2.get k ≠ some (.cells c true) := fun k hk c hc => by
    simp only [List.mem_cons, List.not_mem_nil, or_false] at hk
    rcases hk with rfl | rfl
    · rw [ct2.gm] at hc; cases hc
    · rw [gd2] at hc; cases hc
  refine WC_loop (RisesI S2 t m dm v0 l) 201 (by omega) ⟨0, [], 0, [], 0, rfl, by omega, by omega, rfl, ?_, ct2, gd2, fun _ h => (nomatch h), .refl⟩ ?_
  · simp (maxSteps := 4000000) only [get_put_eq, get_put_ne, Nat.reduceEqDiff, not_false_eq_true, ofList_get, List.getElem?_cons_zero, Bool.true_and, true_and, reduceCtorEq]
    rfl
  rintro n ⟨tt, S, ds⟩ hn ⟨i, M, clock, D, dclk, rfl, hi, hil, hds, ⟨g0, g3, g4, g5⟩, cS, gdS, hD, XS⟩
  simp only at hds g0 g3 g4 g5 cS gdS XS
  subst hds
  have hGS := XS.good hG2
  have hrS := InRow.keep hr2 XS hno
  by_cases c1 : i < l.length ∧ i < 200
  · obtain ⟨hi1, hi2⟩ := c1
    have e1 : (i : Int) < (l.length : Int) := by omega
    have e2 : (i : Int) < 200 := by omega
    have w1 : dwrap .i64 ((i : Int) + 1) = ((i + 1 : Nat) : Int) := by rw [dwrap_in (by omega) (by omega)]; omega
    obtain ⟨k, oc, on, r, vb, vc, hv0, hb, hld⟩ := row9 hrS hl hi1
    rw [hv0] at g0
    simp only [Rp.cells] at hld
    obtain ⟨S1, hS1⟩ : ∃ S1 : DS, S1 = (S.new (.cells (.list [.int .i64 0, .int .i64 0, .int .i64 0, .int .i64 0, .int .i64 0, .bool false, .int .i64 0, .int .i64 0, .int .i64 0]) false)).upd S.next (.cells (.list [.int .i64 k, .int .i64 oc, .int .i64 on, .int .i64 r.c, .int .i64 r.n, .bool r.rej, .int .i64 r.trap, .int .i64 r.v, .int .i64 r.gas]) false) := ⟨_, rfl⟩
    have XQ : Ext [] S S1 := by rw [hS1]; exact (Ext.new (F := [])).trans (Ext.upd (F := [S.next]) (.inl (by simp))) (by simp)
    have hGQ := XQ.good hGS
    have gq : S1.get S.next = some (.cells (.list [.int .i64 k, .int .i64 oc, .int .i64 on, .int .i64 r.c, .int .i64 r.n, .bool r.rej, .int .i64 r.trap, .int .i64 r.v, .int .i64 r.gas]) false) := by rw [hS1]; simp (maxSteps := 4000000) (maxDischargeDepth := 8) only [DS.upd_get_self, Option.map_some, get_new_at, hGS]
    have nq : S1.next = S.next + 1 := by rw [hS1]; simp (maxSteps := 4000000) (maxDischargeDepth := 8) only [DS.upd_next, nextN]
    have hml' := DS.get_lt' cS.gm
    have hdl' := DS.get_lt' gdS
    have htl' := DS.get_lt' cS.go
    have cQ := cS.keep XQ (by simp) (by simp)
    by_cases k2 : k = 2
    · simp (maxSteps := 4000000) (maxDischargeDepth := 8) only [WC_seq, WC_region, WC_cond, WC_block, WC_skip, contS_normal, contR_ap, WO_nil, WO_pp, WO_g, gateO_tt, condC_true, contO_ap, atS_ap, atD_ap, W_some, W_mv, W_pick, W_bin, W_fadr, W_ixL, W_blenL, W_ld, W_st, W_alloc, W_call, dpure, dbin, dint, ev_tmp, ev_const, ev_func, putT_some, putT_none, get_put_eq, get_put_ne, not_false_eq_true, Option.getD_some, List.map_cons, List.map_nil, ldV_at, Cells.get, getN, Nat.zero_add, Nat.reduceAdd, st_wr, cells_agg, List.length_cons, List.length_nil, allOne, oneCellD, Bool.and_self, Bool.and_true, Nat.beq_eq, Nat.ble_eq, Nat.blt_eq, Nat.le_refl, if_true, DS.wrC, Cells.size, Cells.fillFrom, Cells.set, setN, DS.upd_get_self, Option.map_some, wrN, W_ldA, Nat.add_zero, asIdx_cast, decide_true, get_new_at, good_new, good_at, eq_lt, eq_gt, Nat.reduceLT, Nat.lt_add_one, Nat.succ_pos, g0, g3, g4, g5, e1, e2, hi1, hld, hGS, k2]
      rw [k2] at hS1 gq
      rw [← hS1]
      refine W.mono (tlast_ok hT (d := d + 9) cQ hGQ r.c) ?_
      rintro ⟨v2, s2⟩ ⟨h2, X2⟩
      simp only at h2 X2
      subst h2
      have gq2 := X2.keep gq (by simp)
      have c2 := cQ.keep X2 (by simp) (by simp)
      have hG2' := X2.good hGQ
      simp (maxSteps := 4000000) only [WC_seq, WC_region, WC_cond, WC_block, contS_normal, contR_ap, WO_nil, WO_pp, condC_true, condC_false, contO_ap, atS_ap, W_some, W_mv, W_bin, W_fadr, W_ld, W_call, dpure, dbin, dint, ev_tmp, ev_const, ev_func, putT_some, get_put_eq, get_put_ne, Nat.reduceEqDiff, not_false_eq_true, Option.getD_some, List.map_cons, List.map_nil, ldV_at, Cells.get, getN, Nat.zero_add, if_true, W_ldA, ldA, Nat.add_zero, decide_true, decide_false, Int.reduceEq, DS.read, Cells.take, g0, g3, g4, g5, gq2]
      refine W.mono (tfinish_ok hC hT hE (d := d + 1) c2 hG2' r) ?_
      rintro ⟨v3, s3⟩ ⟨h3, ⟨M6, clock6, c6, hM6⟩, X3⟩
      simp only at h3 c6 X3
      subst h3
      obtain ⟨cc, hcc⟩ : ∃ cc, cc = r.c := ⟨_, rfl⟩
      have hG3 := X3.good hG2'
      have gd3 := X3.keep (X2.keep (XQ.keep gdS (by simp)) (by simp)) (by simp; omega)
      have gq3 := X3.keep gq2 (by simp; have := X2.le; omega)
      have X03 : Ext [m, dm] S s3 := ((XQ.trans' X2).weaken (by simp)).trans' (X3.weaken (by simp))
      have hmono : lastN (rowOf M cc) ≤ lastN (rowOf M6 cc) := by
        rw [hcc, hM6 r.c]
        by_cases hz : finishE (rowOf M r.c) r = 0
        · rw [if_pos ⟨decide_eq_true hz, rfl⟩]
          obtain ⟨x0, ho, hn0, _⟩ := fin_row hz
          rw [ho]
          show x0.num ≤ r.n
          omega
        · rw [if_neg (fun h => hz (of_decide_eq_true h.1))]
          exact Int.le_refl _
      have hDk : DoneOk M6 D := fun x hx => by
        obtain ⟨r0, h1, h2⟩ := hD x hx
        rw [hM6 x.1.1]
        by_cases hz : decide (finishE (rowOf M r.c) r = 0) = true ∧ x.1.1 = r.c
        · rw [if_pos hz]
          obtain ⟨x0, ho, hn0, hd0⟩ := fin_row (of_decide_eq_true hz.1)
          rw [hz.2, ho] at h1
          cases h1
          refine ⟨_, rfl, ?_⟩
          rcases h2 with h | h
          · exact .inl (by show x.1.2 < r.n; omega)
          · exact .inr ⟨by show x.1.2 = r.n; omega, rfl⟩
        · rw [if_neg hz]
          exact ⟨r0, h1, h2⟩
      by_cases hz : finishE (rowOf M r.c) r = 0
      · obtain ⟨x0, ho, hn0, hd0⟩ := fin_row hz
        have hnone := pr_none D (r.c, r.n) 0 fun x hx e => by
          obtain ⟨r0, h1, h2⟩ := hD x hx
          rw [e] at h1 h2
          simp only at h1 h2
          rw [ho] at h1
          cases h1
          rcases h2 with h | h
          · omega
          · rw [hd0] at h; cases h.2
        have hl3 : S.next < s3.next := DS.get_lt' gq3
        have hdl3 : dm < s3.next := DS.get_lt' gd3
        have hwd3 : s3.wr dm = true := X03.wrs (XS.wrs wd2)
        simp only [prV] at hnone
        have hmay := fin_may hz
        have hfc := fits_of hmay.2.1.1 (by have := hmay.2.1.2.1; omega)
        have hfn := fits_of (by have := hmay.2.1.2.2.1; omega) hmay.2.1.2.2.2
        simp (maxSteps := 4000000) (maxDischargeDepth := 8) only [WC_seq, WC_region, WC_cond, WC_skip, contS_normal, contB_normal, contR_ap, WO_nil, WO_pp, condC_true, condC_false, contO_ap, atS_ap, atD_ap, atG_ap, W_some, W_mv, W_bin, W_build, W_fadr, W_ld, W_look, W_st, W_alloc, W_mupd, W_call, dpure, dbin, dint, dread, dwrite, ev_tmp, ev_const, ev_func, putT_some, putT_none, get_put_eq, get_put_ne, not_false_eq_true, Option.getD_some, List.map_cons, List.map_nil, ldV_at, Cells.get, getN, Nat.zero_add, Nat.reduceAdd, st_wr, cells_int, cells_agg, List.length_cons, List.length_nil, allOne, oneCellD, Bool.and_self, Bool.and_true, Bool.and_eq_true, Nat.beq_eq, Nat.ble_eq, Nat.reduceLeDiff, Nat.le_refl, and_self, if_true, if_false, Bool.false_eq_true, DS.wrC, Cells.size, Cells.fillFrom, Cells.set, setN, fillParts, List.take_zero, List.take_succ_cons, List.drop_succ_cons, List.drop_zero, List.nil_append, List.cons_append, List.drop_nil, List.append_nil, DS.upd_get_self, DS.upd_get_ne, DS.upd_wr, Option.map_some, Option.isSome_some, DS.set_upd, wrN, W_ldA, ldA, decide_true, DS.read, Cells.take, get_new_at, get_new_ne, good_new, DS.upd_good, good_at, eq_lt, eq_gt, Nat.reduceLT, Nat.lt_add_one, g0, g3, g4, g5, hz, gq3, gd3, hG3, hl3, hdl3, isKey, kindsOk, hnone, hwd3, hfc, hfn, and_self, if_true]
        obtain ⟨D6, hD6e⟩ : ∃ D6, D6 = D ++ [((r.c, r.n), dclk)] := ⟨_, rfl⟩
        obtain ⟨dclk6, hdc6⟩ : ∃ dclk6, dclk6 = dclk + 1 := ⟨_, rfl⟩
        have hmap : D.map prE ++ [{ key := .agg ⟨[.int .i64 r.c, .int .i64 r.n]⟩, val := .bool true, born := dclk }] = D6.map prE := by rw [hD6e]; simp [prE, prV]
        rw [hmap, ← hdc6]
        obtain ⟨s6, hs6⟩ : ∃ s6 : DS, s6 = ((s3.new (.cells (.list [.int .i64 0, .int .i64 0]) false)).upd s3.next (.cells (.list [.int .i64 r.c, .int .i64 r.n]) false)).upd dm (.map (D6.map prE) dclk6) := ⟨_, rfl⟩
        rw [← hs6]
        have X36 : Ext [m, dm] s3 s6 := by
          rw [hs6]
          have y1 : Ext [m, dm] s3 ((s3.new (.cells (.list [.int .i64 0, .int .i64 0]) false)).upd s3.next (.cells (.list [.int .i64 r.c, .int .i64 r.n]) false)) := (Ext.new (F := [m, dm])).trans (Ext.upd (F := [s3.next]) (.inl (by simp))) (by simp)
          exact y1.trans' (Ext.upd (.inl (by simp)))
        have X36' : Ext [dm] s3 s6 := by
          rw [hs6]
          have y1 : Ext [dm] s3 ((s3.new (.cells (.list [.int .i64 0, .int .i64 0]) false)).upd s3.next (.cells (.list [.int .i64 r.c, .int .i64 r.n]) false)) := (Ext.new (F := [dm])).trans (Ext.upd (F := [s3.next]) (.inl (by simp))) (by simp)
          exact y1.trans' (Ext.upd (.inl (by simp)))
        have gd6 : s6.get dm = some (.map (D6.map prE) dclk6) := by
          rw [hs6, DS.upd_get_self]
          have : ((s3.new (.cells (.list [.int .i64 0, .int .i64 0]) false)).upd s3.next (.cells (.list [.int .i64 r.c, .int .i64 r.n]) false)).get dm = some (.map (D.map prE) dclk) := by simp (maxSteps := 4000000) (maxDischargeDepth := 8) only [not_false_eq_true, DS.upd_get_ne, get_new_ne, eq_lt, gd3, hdl3]
          rw [this]; rfl
        clear hs6
        have hG6 := X36.good hG3
        have c6' := c6.keep X36' (by simp; omega) (by simp; omega)
        have c6 := c6'
        have hD6 : DoneOk M6 D6 := fun x hx => by
          rw [hD6e] at hx
          rcases List.mem_append.1 hx with hx | hx
          · exact hDk x hx
          · simp at hx
            subst hx
            refine ⟨⟨r.c, r.n, true, r⟩, ?_, .inr ⟨rfl, rfl⟩⟩
            rw [hM6 r.c, if_pos ⟨decide_eq_true hz, rfl⟩]
        have X6 := X03.trans' X36
        rw [← hcc]
        refine W.mono (tlast_ok hT (d := d + 9) c6 hG6 cc) ?_
        rintro ⟨v7, s7⟩ ⟨h7, X7⟩
        simp only at h7 X7
        subst h7
        have hnl : ¬ lastN (rowOf M6 cc) < lastN (rowOf M cc) := by omega
        simp only [lastN] at hnl
        simp (maxSteps := 4000000) only [WC_region, WC_cond, WC_skip, contS_normal, contB_normal, contR_ap, contL_normal, WO_nil, WO_pp, condC_false, contO_ap, atS_ap, W_some, W_mv, W_bin, dbin, dint, ev_tmp, ev_const, putT_some, get_put_eq, get_put_ne, Nat.reduceEqDiff, not_false_eq_true, Option.getD_some, if_true, decide_false, g0, g3, g4, g5, hnl, w1]
        have X06 := XS.trans' X6
        refine ⟨201 - (i + 1), by omega, ⟨i + 1, M6, clock6, D6, dclk6, rfl, by omega, by omega, rfl, by simp (maxSteps := 4000000) only [get_put_eq, get_put_ne, Nat.reduceEqDiff, not_false_eq_true, Bool.and_self, and_self, reduceCtorEq, g0, g3, g4, g5, hv0], c6.keep X7 (by simp) (by simp), X7.keep gd6 (by simp), hD6, X06.trans' (X7.weaken (by simp))⟩⟩
      · obtain ⟨D6, hD6e⟩ : ∃ D6, D6 = D := ⟨_, rfl⟩
        obtain ⟨dclk6, hdc6⟩ : ∃ dclk6, dclk6 = dclk := ⟨_, rfl⟩
        have hD6 := hDk
        have gd6 := gd3
        have hG6 := hG3
        have X6 := X03
        rw [← hD6e] at hD6
        rw [← hD6e, ← hdc6] at gd6
        simp (maxSteps := 4000000) only [WC_seq, WC_region, WC_cond, WC_skip, contS_normal, contB_normal, contR_ap, WO_nil, WO_pp, condC_false, contO_ap, atS_ap, W_some, W_mv, W_bin, W_call, dbin, dint, ev_tmp, ev_const, ev_func, putT_some, get_put_eq, get_put_ne, Nat.reduceEqDiff, not_false_eq_true, Option.getD_some, List.map_cons, List.map_nil, if_true, decide_false, g0, g3, g4, g5, hz]
        rw [← hcc]
        refine W.mono (tlast_ok hT (d := d + 9) c6 hG6 cc) ?_
        rintro ⟨v7, s7⟩ ⟨h7, X7⟩
        simp only at h7 X7
        subst h7
        have hnl : ¬ lastN (rowOf M6 cc) < lastN (rowOf M cc) := by omega
        simp only [lastN] at hnl
        simp (maxSteps := 4000000) only [WC_region, WC_cond, WC_skip, contS_normal, contB_normal, contR_ap, contL_normal, WO_nil, WO_pp, condC_false, contO_ap, atS_ap, W_some, W_mv, W_bin, dbin, dint, ev_tmp, ev_const, putT_some, get_put_eq, get_put_ne, Nat.reduceEqDiff, not_false_eq_true, Option.getD_some, if_true, decide_false, g0, g3, g4, g5, hnl, w1]
        have X06 := XS.trans' X6
        refine ⟨201 - (i + 1), by omega, ⟨i + 1, M6, clock6, D6, dclk6, rfl, by omega, by omega, rfl, by simp (maxSteps := 4000000) only [get_put_eq, get_put_ne, Nat.reduceEqDiff, not_false_eq_true, Bool.and_self, and_self, reduceCtorEq, g0, g3, g4, g5, hv0], c6.keep X7 (by simp) (by simp), X7.keep gd6 (by simp), hD6, X06.trans' (X7.weaken (by simp))⟩⟩
    · simp (maxSteps := 4000000) (maxDischargeDepth := 8) only [WC_seq, WC_region, WC_cond, WC_block, WC_skip, contS_normal, contR_ap, WO_nil, WO_pp, WO_g, gateO_tt, condC_true, condC_false, contO_ap, atS_ap, atD_ap, W_some, W_mv, W_pick, W_bin, W_fadr, W_ixL, W_blenL, W_ld, W_st, W_alloc, W_call, dpure, dbin, dint, ev_tmp, ev_const, ev_func, putT_some, putT_none, get_put_eq, get_put_ne, not_false_eq_true, Option.getD_some, List.map_cons, List.map_nil, ldV_at, Cells.get, getN, Nat.zero_add, Nat.reduceAdd, st_wr, cells_agg, List.length_cons, List.length_nil, allOne, oneCellD, Bool.and_self, Bool.and_true, Nat.beq_eq, Nat.ble_eq, Nat.blt_eq, Nat.le_refl, if_true, DS.wrC, Cells.size, Cells.fillFrom, Cells.set, setN, DS.upd_get_self, Option.map_some, wrN, W_ldA, Nat.add_zero, asIdx_cast, decide_true, decide_false, get_new_at, good_new, good_at, eq_lt, eq_gt, Nat.reduceLT, Nat.lt_add_one, Nat.succ_pos, g0, g3, g4, g5, e1, e2, hi1, hld, hGS, k2]
      rw [← hS1]
      refine W.mono (tlast_ok hT (d := d + 9) cQ hGQ oc) ?_
      rintro ⟨v2, s2⟩ ⟨h2, X2⟩
      simp only at h2 X2
      subst h2
      have gq2 := X2.keep gq (by simp)
      have c2 := cQ.keep X2 (by simp) (by simp)
      have hG2' := X2.good hGQ
      by_cases k1 : k = 1
      · simp (maxSteps := 4000000) only [WC_seq, WC_region, WC_cond, WC_block, contS_normal, contR_ap, WO_nil, WO_pp, condC_true, contO_ap, atS_ap, W_some, W_mv, W_bin, W_fadr, W_ld, W_call, dpure, dbin, dint, ev_tmp, ev_const, ev_func, putT_some, get_put_eq, get_put_ne, Nat.reduceEqDiff, not_false_eq_true, Option.getD_some, List.map_cons, List.map_nil, ldV_at, Cells.get, getN, Nat.zero_add, if_true, Nat.add_zero, decide_true, g0, g3, g4, g5, gq2, k1]
        refine W.mono (tbegin_ok hT (d := d + 6) c2 hG2' oc on) ?_
        rintro ⟨v3, s3⟩ ⟨h3, ⟨M6, clock6, c6, hM6⟩, X3⟩
        simp only at h3 c6 X3
        subst h3
        obtain ⟨cc, hcc⟩ : ∃ cc, cc = oc := ⟨_, rfl⟩
        have hG6 := X3.good hG2'
        have gd6 := X3.keep (X2.keep (XQ.keep gdS (by simp)) (by simp)) (by simp; omega)
        have hmono : lastN (rowOf M cc) ≤ lastN (rowOf M6 cc) := by
          rw [hcc, hM6 oc]
          by_cases hz : beginE (rowOf M oc) oc on = 0
          · rw [if_pos ⟨decide_eq_true hz, rfl⟩]
            have hwho := begin_who hz
            cases ho : rowOf M oc with
            | none => show (0 : Int) ≤ on; have := hwho.2.2.1; omega
            | some x0 => rw [ho] at hz; have := begin_gt hz; show x0.num ≤ on; omega
          · rw [if_neg (fun h => hz (of_decide_eq_true h.1))]
            exact Int.le_refl _
        have hD6 : DoneOk M6 D := fun x hx => by
          obtain ⟨r0, h1, h2⟩ := hD x hx
          rw [hM6 x.1.1]
          by_cases hz : decide (beginE (rowOf M oc) oc on = 0) = true ∧ x.1.1 = oc
          · rw [if_pos hz]
            have hz1 := of_decide_eq_true hz.1
            rw [hz.2] at h1
            rw [h1] at hz1
            have := begin_gt hz1
            exact ⟨_, rfl, .inl (by show x.1.2 < on; rcases h2 with h | h <;> omega)⟩
          · rw [if_neg hz]
            exact ⟨r0, h1, h2⟩
        obtain ⟨D6, hD6e⟩ : ∃ D6, D6 = D := ⟨_, rfl⟩
        obtain ⟨dclk6, hdc6⟩ : ∃ dclk6, dclk6 = dclk := ⟨_, rfl⟩
        rw [← hD6e] at hD6
        rw [← hD6e, ← hdc6] at gd6
        have X6 : Ext [m, dm] S s3 := ((XQ.trans' X2).weaken (by simp)).trans' (X3.weaken (by simp))
        simp (maxSteps := 4000000) only [WC_seq, WC_region, contS_normal, contB_normal, contR_ap, WO_nil, WO_pp, contO_ap, W_mv, W_call, ev_tmp, ev_func, putT_some, get_put_eq, get_put_ne, Nat.reduceEqDiff, not_false_eq_true, Option.getD_some, List.map_cons, List.map_nil, g0, g3, g4, g5, k1]
        rw [← hcc]
        refine W.mono (tlast_ok hT (d := d + 9) c6 hG6 cc) ?_
        rintro ⟨v7, s7⟩ ⟨h7, X7⟩
        simp only at h7 X7
        subst h7
        have hnl : ¬ lastN (rowOf M6 cc) < lastN (rowOf M cc) := by omega
        simp only [lastN] at hnl
        simp (maxSteps := 4000000) only [WC_region, WC_cond, WC_skip, contS_normal, contB_normal, contR_ap, contL_normal, WO_nil, WO_pp, condC_false, contO_ap, atS_ap, W_some, W_mv, W_bin, dbin, dint, ev_tmp, ev_const, putT_some, get_put_eq, get_put_ne, Nat.reduceEqDiff, not_false_eq_true, Option.getD_some, if_true, decide_false, g0, g3, g4, g5, hnl, w1]
        have X06 := XS.trans' X6
        refine ⟨201 - (i + 1), by omega, ⟨i + 1, M6, clock6, D6, dclk6, rfl, by omega, by omega, rfl, by simp (maxSteps := 4000000) only [get_put_eq, get_put_ne, Nat.reduceEqDiff, not_false_eq_true, Bool.and_self, and_self, reduceCtorEq, g0, g3, g4, g5, hv0], c6.keep X7 (by simp) (by simp), X7.keep gd6 (by simp), hD6, X06.trans' (X7.weaken (by simp))⟩⟩
      · simp (maxSteps := 4000000) only [WC_seq, WC_region, WC_cond, WC_block, WC_skip, contS_normal, contB_normal, contR_ap, WO_nil, WO_pp, condC_false, contO_ap, atS_ap, W_some, W_mv, W_bin, W_fadr, W_ld, W_call, dpure, dbin, dint, ev_tmp, ev_const, ev_func, putT_some, get_put_eq, get_put_ne, Nat.reduceEqDiff, not_false_eq_true, Option.getD_some, List.map_cons, List.map_nil, ldV_at, Cells.get, getN, if_true, Nat.add_zero, decide_false, g0, g3, g4, g5, gq2, k1, k2]
        obtain ⟨cc, hcc⟩ : ∃ cc, cc = oc := ⟨_, rfl⟩
        rw [← hcc]
        have c6 := c2
        have hG6 := hG2'
        obtain ⟨M6, hM6⟩ : ∃ M6, M6 = M := ⟨_, rfl⟩
        obtain ⟨D6, hD6e⟩ : ∃ D6, D6 = D := ⟨_, rfl⟩
        obtain ⟨clock6, hc6⟩ : ∃ clock6, clock6 = clock := ⟨_, rfl⟩
        obtain ⟨dclk6, hdc6⟩ : ∃ dclk6, dclk6 = dclk := ⟨_, rfl⟩
        have gd6 := X2.keep (XQ.keep gdS (by simp)) (by simp)
        have hD6 := hD
        rw [← hM6, ← hc6] at c6
        rw [← hM6, ← hD6e] at hD6
        rw [← hD6e, ← hdc6] at gd6
        have hmono : lastN (rowOf M cc) ≤ lastN (rowOf M6 cc) := by rw [hM6]; exact Int.le_refl _
        have X6 : Ext [m, dm] S s2 := (XQ.trans' X2).weaken (by simp)
        refine W.mono (tlast_ok hT (d := d + 9) c6 hG6 cc) ?_
        rintro ⟨v7, s7⟩ ⟨h7, X7⟩
        simp only at h7 X7
        subst h7
        have hnl : ¬ lastN (rowOf M6 cc) < lastN (rowOf M cc) := by omega
        simp only [lastN] at hnl
        simp (maxSteps := 4000000) only [WC_region, WC_cond, WC_skip, contS_normal, contB_normal, contR_ap, contL_normal, WO_nil, WO_pp, condC_false, contO_ap, atS_ap, W_some, W_mv, W_bin, dbin, dint, ev_tmp, ev_const, putT_some, get_put_eq, get_put_ne, Nat.reduceEqDiff, not_false_eq_true, Option.getD_some, if_true, decide_false, g0, g3, g4, g5, hnl, w1]
        have X06 := XS.trans' X6
        refine ⟨201 - (i + 1), by omega, ⟨i + 1, M6, clock6, D6, dclk6, rfl, by omega, by omega, rfl, by simp (maxSteps := 4000000) only [get_put_eq, get_put_ne, Nat.reduceEqDiff, not_false_eq_true, Bool.and_self, and_self, reduceCtorEq, g0, g3, g4, g5, hv0], c6.keep X7 (by simp) (by simp), X7.keep gd6 (by simp), hD6, X06.trans' (X7.weaken (by simp))⟩⟩
  · have hvl : ∃ a c, v0 = .slice a l.length c := by
      rcases hr with ⟨rfl, rfl⟩ | ⟨b, c, rfl, _⟩
      · exact ⟨_, _, rfl⟩
      · exact ⟨_, _, rfl⟩
    obtain ⟨a, cc, hv0⟩ := hvl
    rw [hv0] at g0
    by_cases c2 : (i : Int) < (l.length : Int)
    · have c3 : ¬ (i : Int) < 200 := by omega
      simp (maxSteps := 4000000) only [WC_seq, WC_region, WC_cond, WC_ret, WC_exit, contS_normal, contS_exit, contB_exit, contR_ap, contL_exit, WO_nil, WO_pp, WO_g, gateO_tt, condC_false, contO_ap, atS_ap, W_some, W_mv, W_pick, W_bin, W_blenL, dpure, dbin, dint, Ends_ret, ev_tmp, ev_const, putT_some, get_put_eq, get_put_ne, Nat.reduceEqDiff, not_false_eq_true, Option.getD_some, dresults, tupled, if_true, reduceCtorEq, decide_true, decide_false, g0, g3, g4, g5, c2, c3]
    · simp (maxSteps := 4000000) only [WC_seq, WC_region, WC_cond, WC_ret, WC_exit, contS_normal, contS_exit, contB_exit, contR_ap, contL_exit, WO_nil, WO_pp, WO_g, gateO_ft, condC_false, contO_ap, atS_ap, W_some, W_mv, W_pick, W_bin, W_blenL, dpure, dbin, dint, Ends_ret, ev_tmp, ev_const, putT_some, get_put_eq, get_put_ne, Nat.reduceEqDiff, not_false_eq_true, Option.getD_some, dresults, tupled, if_true, if_false, reduceCtorEq, Bool.false_eq_true, List.nil_append, decide_false, g0, g3, g4, g5, c2]
end
end Go.Dx.TbA
