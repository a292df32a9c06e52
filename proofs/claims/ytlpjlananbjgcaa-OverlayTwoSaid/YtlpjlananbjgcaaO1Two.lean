/- The overlay's functions and OverlayTwo, in one text (O1Dg, O1Rf, O1Ba, O1Fk, O1Ov, O1Two put together). -/
import Derived.Test.YtlpjlananbjgcaaO1Pk
import Derived.Test.YtlpjlananbjgcaaO1Bl
import Derived.Test.YtlpjlananbjgcaaDxBl
import Derived.Test.YtlpjlananbjgcaaDxRow
import Derived.Test.YtlpjlananbjgcaaDxTopM
import Derived.Test.YtlpjlananbjgcaaO1Fn
import Derived.Test.YtlpjlananbjgcaaDxOut
import Derived.Test.YtlpjlananbjgcaaDxSorted
/- A store's digest (made by tools/gen.py out of dg.t). -/
set_option linter.unusedVariables false
set_option linter.unusedSimpArgs false
set_option linter.unusedSectionVars false
set_option maxRecDepth 100000
set_option maxHeartbeats 4000000
namespace Go.Dx.OvA
open Go Go.Dx Go.Dx.Search Go.Dx.St Go.Proofs.Ytlpjlananbjgcaa
section
variable {E : Env} (hC : CFns E) (hP : PkFns E) (hF : Fns E) (hI : Its E) (hB : BFns E) {s : DS} {d : Nat} {p : Nat} {kv vv : Value} {L : List Ent} {room : Int}
theorem packB_len (room : Int) (L : List Ent) : (packB room L).length = 4 + L.length * 16 := by
  have hcat : ∀ M : List Ent, (catE entB M).length = M.length * 16 := fun M => by
    induction M with
    | nil => rfl
    | cons a M ih => unfold catE at ih ⊢; rw [List.flatMap_cons, List.length_append, ih]; simp [entB, leB_len]; omega
  show (leB room 2 ++ (leB (L.length : Int) 2 ++ catE entB L)).length = _
  rw [List.length_append, List.length_append, leB_len, leB_len, hcat]
  omega
include hC hP hF hI hB
theorem Digest_ok (c : StAt s p kv vv L room) (hG : s.Good) (hroom : 0 ≤ room ∧ room ≤ 65535) (hl : L.length ≤ 4096) (hlf : 4 + L.length * 16 < E.lf) (fDg : E.fn 27 = some d27) (iDg : E.intr 27 = none) :
    W (dcall E (d + 13) (.func (.func 27) #[] #[]) [.pointer (some ⟨p, 0, none⟩)] s) fun r => r.1 = .agg ⟨sumsF [packB room L]⟩ ∧ Ext [] s r.2 := by
  refine W_cps fun Q hQ => ?_
  rw [W_enter0 iDg fDg rfl]
  simp (maxSteps := 4000000) (maxDischargeDepth := 8) only [WC_seq, WC_region, WC_cond, WC_skip, contS_normal, contR_ap, WO_nil, WO_pp, condC_false, contO_ap, atB_ap, W_some, W_mv, W_eq1, W_alloc, W_call, eqOne, ev_tmp, ev_const, ev_func, putT_some, get_put_eq, get_put_ne, not_false_eq_true, ofList_get, List.getElem?_cons_zero, Option.getD_some, List.map_cons, List.map_nil, if_false, Bool.not_false, Bool.false_eq_true, pp, pv, eq_lt, Nat.succ_pos, d27, hG]
  obtain ⟨S1, hS1⟩ : ∃ S1 : DS, S1 = s.new (.cells (.list [.int .u8 0, .int .u8 0, .int .u8 0, .int .u8 0, .int .u8 0, .int .u8 0, .int .u8 0, .int .u8 0, .int .u8 0, .int .u8 0, .int .u8 0, .int .u8 0, .int .u8 0, .int .u8 0, .int .u8 0, .int .u8 0, .int .u8 0, .int .u8 0, .int .u8 0, .int .u8 0, .int .u8 0, .int .u8 0, .int .u8 0, .int .u8 0, .int .u8 0, .int .u8 0, .int .u8 0, .int .u8 0, .int .u8 0, .int .u8 0, .int .u8 0, .int .u8 0]) false) := ⟨_, rfl⟩
  rw [← hS1]
  rw [show ([.int .u8 0, .int .u8 0, .int .u8 0, .int .u8 0, .int .u8 0, .int .u8 0, .int .u8 0, .int .u8 0, .int .u8 0, .int .u8 0, .int .u8 0, .int .u8 0, .int .u8 0, .int .u8 0, .int .u8 0, .int .u8 0, .int .u8 0, .int .u8 0, .int .u8 0, .int .u8 0, .int .u8 0, .int .u8 0, .int .u8 0, .int .u8 0, .int .u8 0, .int .u8 0, .int .u8 0, .int .u8 0, .int .u8 0, .int .u8 0, .int .u8 0, .int .u8 0] : List Value) = zerosV .u8 32 from rfl] at hS1
  have X1 : Ext [] s S1 := by rw [hS1]; exact Ext.new
  have hG1 := X1.good hG
  have gD1 : S1.get s.next = some (.cells (.list (zerosV .u8 32)) false) := by rw [hS1]; simp (maxSteps := 4000000) (maxDischargeDepth := 8) only [get_new_at, hG]
  have wD1 : S1.wr s.next = true := X1.wrs (hG _ (Nat.le_refl _)).2
  clear hS1
  refine W.mono (Pack_ok hC hP hF hI (c.keep X1 (by simp)) hG1 hroom hl) ?_
  rintro ⟨v2, s2⟩ ⟨hv, hsh, hb, X2⟩
  simp only at hv hsh hb X2
  have hR := SlR.of hv hsh
  have hG2 := X2.good hG1
  have gD2 := X2.keep gD1 (by simp)
  have wD2 := X2.wrs wD1
  obtain ⟨a, hv2, _⟩ := hsh
  have hcell : v2.cells.toList = [v2] := by rw [hv2]; rfl
  simp (maxSteps := 4000000) (maxDischargeDepth := 8) only [WO_pp, contO_ap, atL_ap, W_some, W_call, ev_tmp, ev_func, putT_some, get_put_eq, Option.getD_some, List.map_cons, List.map_nil, Nat.zero_add, List.length_cons, List.length_nil, Bool.and_self, Bool.and_eq_true, Nat.beq_eq, Nat.ble_eq, Nat.reduceLeDiff, Nat.le_refl, and_self, if_true, fillParts, List.take_zero, List.drop_succ_cons, List.nil_append, List.drop_nil, List.append_nil, W_bslice, repeatZ, atL_ap, Nat.mul_one, hG2, hcell]
  have gP : (s2.new (.cells (.list [v2]) false)).get s2.next = some (.cells (.list ([(v2, packB room L)].map Prod.fst)) false) := DS.new_get_self hG2
  have hG3 : (s2.new (.cells (.list [v2]) false)).Good := DS.new_good hG2
  have hpl := packB_len room L
  refine W.mono (sum_ok hB (d := d + 7) (b := s2.next) (ps := [(v2, packB room L)]) hG3 gP ?_ ?_ ?_ ?_) ?_
  · intro q hq
    obtain rfl := List.mem_singleton.1 hq
    exact hR.keep (Ext.new (F := [])) (by simp)
  · show 1 < E.lf
    omega
  · show 1 ≤ 1000000
    omega
  · intro q hq
    obtain rfl := List.mem_singleton.1 hq
    show (packB room L).length < E.lf
    omega
  rintro ⟨v3, s3⟩ ⟨h3, X3⟩
  simp only at h3 X3
  subst h3
  have hO : U .u8 32 (sumsF [packB room L]) := digF_U _
  have X23 : Ext [] s2 s3 := Ext.new.trans' X3
  have gD3 := X23.keep gD2 (by simp)
  have wD3 := X23.wrs wD2
  show contO _ _ _ _ _ _ (.agg ⟨sumsF [packB room L]⟩, s3)
  obtain ⟨o, ho⟩ : ∃ o, o = sumsF [packB room L] := ⟨_, rfl⟩
  rw [← ho] at hO ⊢
  have hfill9 : (Cells.list (zerosV .u8 32)).fillFrom 0 o = .list o := by
    rw [fill_list _ _ _ (by rw [hO.1]; decide), hO.1]
    simp [zerosV]
  have hrd : (s3.upd s.next (.cells (.list o) false)).read s.next 0 32 = some o := by
    unfold DS.read
    simp only [DS.upd_get_self, gD3, Option.map_some]
    rw [take_list _ _ _ (by rw [hO.1]; decide)]
    simp only [List.drop_zero]
    rw [List.take_of_length_le (by rw [hO.1]; exact Nat.le_refl _)]
  simp (maxSteps := 4000000) (maxDischargeDepth := 8) only [WC_ret, contS_normal, contR_ap, WO_nil, WO_pp, contO_ap, atD_ap, W_some, W_st, dread, Ends_ret, ev_tmp, putT_some, putT_none, get_put_eq, get_put_ne, not_false_eq_true, Option.getD_some, dresults, tupled, Nat.zero_add, st_wr, cells_agg, Bool.and_true, Nat.beq_eq, Nat.ble_eq, Nat.le_refl, if_true, DS.wrC, Cells.size, eq_lt, Nat.reduceLT, Nat.lt_add_one, gD3, wD3, hO.1, hO.allOne, hfill9, (zeros_U .u8 32).1, hrd]
  refine hQ _ ⟨by rw [ho], ?_⟩
  exact ((X1.trans' X2).trans' X23).trans (Ext.upd (F := [s.next]) (.inl (by simp))) (by simp)
end
end Go.Dx.OvA
/- The document's answer for a store: what its functions do (made by tools/gen.py out of ref03.t). -/
set_option linter.unusedVariables false
set_option linter.unusedSimpArgs false
set_option linter.unusedSectionVars false
set_option maxRecDepth 100000
set_option maxHeartbeats 4000000
namespace Go.Dx.OvA
open Go Go.Dx Go.Dx.Search Go.Dx.St Go.Proofs.Ytlpjlananbjgcaa
theorem entV_at {L : List Ent} {i : Nat} {x : Ent} (h : L[i]? = some x) : (entV L)[i]? = some [.int .i64 x.1, .int .i64 x.2] := by simp [entV, h]
theorem entV_get0 {L : List Ent} {i : Nat} {x : Ent} (h : L[i]? = some x) : getN (entV L).flatten (i * 2) = some (.int .i64 x.1) := by
  have := flatten_get (j := 0) (entV_ok L).len (entV_at h) rfl
  rwa [Nat.add_zero] at this
theorem entV_get1 {L : List Ent} {i : Nat} {x : Ent} (h : L[i]? = some x) : getN (entV L).flatten (i * 2 + 1) = some (.int .i64 x.2) := flatten_get (j := 1) (entV_ok L).len (entV_at h) rfl
theorem appM_ok {s : DS} {sz bytes : Nat} {vx vy : Value} {lx ly : List (List Value)} {nt : List Note} {haz : List Nat} (hx : SlX s sz vx lx) (hy : SlV s sz vy ly) (ox : RowsOk sz lx) (oy : RowsOk sz ly) (hG : s.Good) (hn : lx.length + ly.length ≤ 1099511627776) (hb : (lx.length + ly.length) * bytes ≤ 1099511627776)
    (h1 : ∀ k, k ∈ blk vx → hidden nt haz k = false ∧ shielded nt haz k = false) (h2 : ∀ k, k ∈ blk vy → hidden nt haz k = false) (h3 : ∀ k, s.next ≤ k → hidden nt haz k = false ∧ shielded nt haz k = false) :
    W (appV bytes sz vx vy (mask s nt haz)) fun r => SlX (unmask s r.2) sz r.1 (lx ++ ly) ∧ Ext (blk vx) s (unmask s r.2) ∧ (∀ k, k ∈ blk r.1 → k ∈ blk vx ∨ s.next ≤ k) ∧ r.2.next = (unmask s r.2).next := by
  obtain ⟨⟨v, s1⟩, e, x, X, b⟩ := appV_ok (bytes := bytes) (hx.of (s' := mask s nt haz) fun k hk => ⟨mask_get (h1 k hk).1, fun hw => mask_wr hw (h1 k hk).1 (h1 k hk).2⟩) (hy.of (s' := mask s nt haz) fun k hk => mask_get (h2 k hk)) ox oy (mask_good hG h3) hn hb
  simp only at x X b
  have df : DFrame (mask s nt haz) s1 := write_frame e
  refine ⟨(v, s1), e, x.of fun k hk => ?_, Ext.unmask' X df, b, rfl⟩
  have hh : hidden nt haz k = false := by
    rcases b k hk with h | h
    · exact (h1 k h).1
    · exact (h3 k h).1
  refine ⟨unmask_at hh X, fun hw => ?_⟩
  rw [X.wr] at hw
  simp [mask] at hw
  exact hw.1.1
theorem entV_set {L : List Ent} {i : Nat} {k v w : Int} (h : L[i]? = some (k, w)) : setN (entV L).flatten (i * 2 + 1) (.int .i64 v) = (entV (L.set i (k, v))).flatten := by
  induction L generalizing i with
  | nil => simp at h
  | cons a L ih =>
    cases i with
    | zero =>
      simp at h
      subst h
      rfl
    | succ i =>
      have := ih (i := i) (by simpa using h)
      show setN (.int .i64 a.1 :: .int .i64 a.2 :: (entV L).flatten) ((i + 1) * 2 + 1) _ = .int .i64 a.1 :: .int .i64 a.2 :: (entV (L.set i (k, v))).flatten
      rw [show (i + 1) * 2 + 1 = (i * 2 + 1) + 1 + 1 by omega, ← this]
      rfl
structure R3Fns (E : Env) : Prop where
  fFind : E.fn 45 = some d45
  iFind : E.intr 45 = none
  fNew : E.fn 39 = some d39
  iNew : E.intr 39 = none
  fPut : E.fn 40 = some d40
  iPut : E.intr 40 = none
/-- a reference store in memory -/
structure RefS (s : DS) (q : Nat) (v : Value) (L : List Ent) (room : Int) : Prop where
  gq : s.get q = some (.cells (.list [v, .int .i64 room]) false)
  wq : s.wr q = true
  sl : SlX s 2 v (entV L)
  ne : q ∉ blk v
  so : Rise L
section
variable {s s' : DS} {q : Nat} {v : Value} {L : List Ent} {room : Int} {F : List Nat}
theorem RefS.keep (c : RefS s q v L room) (e : Ext F s s') (hq : q ∉ F) (hb : ∀ k, k ∈ blk v → k ∉ F) : RefS s' q v L room :=
  ⟨e.keep c.gq hq, e.wrs c.wq, c.sl.keep e hb, c.ne, c.so⟩
structure RFindI (s : DS) (q : Nat) (L : List Ent) (k : Int) (n : Nat) (x : St) : Prop where
  ex : ∃ i : Nat, n = L.length - i ∧ i ≤ L.length ∧ x.s = s ∧ x.defers = [] ∧ (x.t.get 0 = some (.pointer (some ⟨q, 0, none⟩)) ∧ x.t.get 1 = some (.int .i64 k) ∧ x.t.get 6 = some (.int .i64 (i : Int))) ∧ ∀ j y, j < i → L[j]? = some y → y.1 < k
variable {E : Env} (hR : R3Fns E) {d : Nat}
include hR
theorem rfind_ok (hlf : L.length < E.lf) (hl : L.length < 1000000) (c : RefS s q v L room) (k : Int) : dcall E (d + 1) (.func (.func 45) #[] #[]) [.pointer (some ⟨q, 0, none⟩), .int .i64 k] s = some (.tuple ⟨[.int .i64 (pos k L : Int), .bool (isAt k L)]⟩, s) := by
  have gq := c.gq
  obtain ⟨a, hv⟩ := c.sl.shape
  rw [entV_len] at hv
  rw [← W_iff, W_enter0 hR.iFind hR.fFind rfl]
  simp (maxSteps := 4000000) only [WC_seq, WC_region, WC_block, contS_normal, contR_ap, WO_nil, WO_pp, contO_ap, W_mv, ev_const, putT_some, pp, pv, pw, pg, d45]
  refine WC_loop (RFindI s q L k) L.length hlf ⟨0, rfl, Nat.zero_le _, rfl, rfl, ?_, fun j y hj => absurd hj (Nat.not_lt_zero _)⟩ ?_
  · simp (maxSteps := 4000000) only [get_put_eq, get_put_ne, Nat.reduceEqDiff, not_false_eq_true, ofList_get, List.getElem?_cons_zero, List.getElem?_cons_succ, Bool.true_and, true_and, reduceCtorEq]
    rfl
  rintro n ⟨t, s2, ds⟩ hn ⟨i, rfl, hi, hs, hds, ⟨g0, g1, g6⟩, hno⟩
  simp only at hs hds g0 g1 g6
  subst hs hds
  by_cases c1 : i < L.length
  · have hx : L[i]? = some L[i] := List.getElem?_eq_getElem c1
    generalize L[i] = x at hx
    have e1 : (i : Int) < (L.length : Int) := by omega
    obtain ⟨b, sp, hv', _, hb, _⟩ := c.sl.at (fun e => by have := entV_len L; rw [e] at this; simp at this; omega)
    rw [entV_len] at hv'
    rw [hv'] at gq
    have w2 : dwrap .i64 ((i : Int) + 1) = ((i + 1 : Nat) : Int) := by rw [dwrap_in (by omega) (by omega)]; omega
    by_cases c2 : x.1 < k
    · simp (maxSteps := 4000000) only [WC_seq, WC_region, WC_cond, WC_block, WC_skip, contS_normal, contB_normal, contR_ap, contL_normal, WO_nil, WO_pp, WO_g, gateO_tt, condC_true, contO_ap, atS_ap, W_some, W_mv, W_pick, W_bin, W_nilck, W_fadr, W_ixL, W_blenL, W_ld, dpure, dbin, dint, ev_tmp, ev_const, putT_some, get_put_eq, get_put_ne, Nat.reduceEqDiff, not_false_eq_true, Option.getD_some, ldV_at, Cells.get, getN, Nat.zero_add, Nat.blt_eq, if_true, reduceCtorEq, Nat.add_zero, asIdx_cast, decide_true, g0, g1, g6, gq, hb, e1, c1, entV_get0 hx, c2, w2]
      refine ⟨L.length - (i + 1), by omega, ⟨i + 1, rfl, by omega, rfl, rfl, by simp (maxSteps := 4000000) only [get_put_eq, get_put_ne, Nat.reduceEqDiff, not_false_eq_true, Bool.and_self, and_self, reduceCtorEq, g0, g1], fun j y hj hy => ?_⟩⟩
      by_cases e : j = i
      · subst e; rw [hx] at hy; cases hy; exact c2
      · exact hno j y (by omega) hy
    · have hpos : pos k L = i := pos_eq c.so (by omega) hno fun y hy => by rw [hx] at hy; cases hy; exact c2
      have hat : isAt k L = decide (x.1 = k) := by unfold isAt; rw [hpos, hx]
      rw [hat, hpos]
      simp (maxSteps := 4000000) only [WC_seq, WC_region, WC_cond, WC_ret, WC_exit, contS_normal, contS_exit, contB_exit, contR_ap, contL_exit, WO_nil, WO_pp, WO_g, gateO_tt, condC_false, contO_ap, atS_ap, W_some, W_mv, W_pick, W_bin, W_nilck, W_fadr, W_ixL, W_blenL, W_ld, dpure, dbin, dint, Ends_ret, ev_tmp, ev_const, putT_some, get_put_eq, get_put_ne, Nat.reduceEqDiff, not_false_eq_true, Option.getD_some, dresults, tupled, ldV_at, Cells.get, getN, Nat.zero_add, Nat.blt_eq, if_true, reduceCtorEq, Nat.add_zero, asIdx_cast, decide_true, decide_false, g0, g1, g6, gq, hb, e1, c1, entV_get0 hx, c2]
  · have hi' : i = L.length := by omega
    have e1 : ¬ (i : Int) < (L.length : Int) := by omega
    have hnone : L[i]? = none := List.getElem?_eq_none (by omega)
    have hpos : pos k L = i := pos_eq c.so (by omega) hno fun y hy => by rw [hnone] at hy; cases hy
    have hat : isAt k L = false := by unfold isAt; rw [hpos, hnone]
    rw [hat, hpos]
    rw [hv] at gq
    simp (maxSteps := 4000000) only [WC_seq, WC_region, WC_cond, WC_ret, WC_exit, contS_normal, contS_exit, contB_exit, contR_ap, contL_exit, WO_nil, WO_pp, WO_g, gateO_ft, condC_false, contO_ap, atS_ap, W_some, W_mv, W_pick, W_bin, W_nilck, W_fadr, W_blenL, W_ld, dpure, dbin, dint, Ends_ret, ev_tmp, ev_const, putT_some, get_put_eq, get_put_ne, Nat.reduceEqDiff, not_false_eq_true, Option.getD_some, dresults, tupled, ldV_at, Cells.get, getN, if_true, if_false, reduceCtorEq, Bool.false_eq_true, List.nil_append, Nat.add_zero, decide_false, g0, g1, g6, gq, e1]
theorem rput_ok (hlf : L.length < E.lf) (hl : L.length < 1000000) (c : RefS s q v L room) (hG : s.Good) (k x : Int) :
    W (dcall E (d + 2) (.func (.func 40) #[] #[]) [.pointer (some ⟨q, 0, none⟩), .int .i64 k, .int .i64 x] s) fun r => r.1 = .int .i64 (putE k L room) ∧ ∃ w, RefS r.2 q w (putR k x L room) room ∧ Ext [q] s r.2 ∧ ∀ j, j ∈ blk w → j ∈ blk v ∨ s.next ≤ j := by
  have hfind := rfind_ok hR hlf hl c k (d := d)
  have gq := c.gq
  have wq := c.wq
  have hql := DS.get_lt' gq
  have hvl := c.sl.lt
  obtain ⟨av, hv⟩ := c.sl.shape
  have hel := entV_len L
  have hple := pos_le k L
  refine W_cps fun Q hQ => ?_
  rw [W_enter0 hR.iPut hR.fPut rfl]
  have hnq : ∀ o, (s.new o).get q = some (.cells (.list [v, .int .i64 room]) false) := fun o => (DS.new_get_lt hql).trans gq
  by_cases hin : isAt k L = true
  · rw [hin] at hfind
    obtain ⟨⟨k', w0⟩, hx, hk⟩ := isAt_true hin
    simp only at hk
    subst hk
    have hil := (List.getElem?_eq_some_iff.1 hx).1
    have hpe : putE k' L room = 0 := by unfold putE; rw [if_pos hin]
    have hpr : putR k' x L room = L.set (pos k' L) (k', x) := by unfold putR putL; rw [if_pos hin, if_pos hin]
    simp (maxSteps := 4000000) only [WC_seq, WC_region, WC_cond, contS_normal, contR_ap, WO_nil, WO_pp, condC_true, contO_ap, atS_ap, atL_ap, W_some, W_mv, W_nilck, W_fadr, W_ext, W_ld, W_call, dpure, ev_tmp, ev_const, ev_func, putT_some, get_put_eq, get_put_ne, Nat.reduceEqDiff, not_false_eq_true, ofList_get, List.getElem?_cons_zero, List.getElem?_cons_succ, Option.getD_some, List.map_cons, List.map_nil, ldV_at, Cells.get, getN, Nat.ble_eq, Nat.reduceLeDiff, reduceCtorEq, fillParts, pp, pv, W_app, W_bslice, repeatZ, atL_ap, Nat.add_zero, Nat.zero_mul, d40, hfind, hnq, gq]
    refine W.mono (appV_ok (lx := []) (ly := entV L) (.inr ⟨s.next, none, rfl, .inl rfl, DS.new_get_self hG, (hG _ (Nat.le_refl _)).2⟩) ((c.sl.view (entV_ok L)).of fun j hj => DS.new_get_lt (hvl j hj)) RowsOk.nil (entV_ok L) (DS.new_good hG) (by simp [entV]; omega) (by simp [entV]; omega)) ?_
    rintro ⟨w3, s3⟩ ⟨x3, X3, b3⟩
    simp only [blk, List.nil_append] at x3 X3 b3
    obtain ⟨b, sp, hw3, hsp, hb, hwb⟩ := x3.at (fun e => by rw [e] at hel; simp at hel; omega)
    rw [entV_len] at hw3
    subst hw3
    have hbn : s.next ≤ b := by
      rcases b3 b (by simp [blk]) with h | h
      · simp at h; omega
      · have : s.next + 1 ≤ b := h
        omega
    have X13 : Ext [] s s3 := (Ext.new (F := [])).trans X3 (by simp)
    have gq3 := X13.keep gq (by simp)
    have wq3 := X13.wrs wq
    have hfl : (entV L).flatten.length = L.length * 2 := by rw [(entV_ok L).flat, hel]
    have hb1 : pos k' L * 2 + 2 ≤ L.length * 2 := by omega
    have hqb : ¬ q = b := by omega
    have hbq : ¬ b = q := by omega
    have hgs : (pos k' L * 2 + 1) + 1 ≤ (entV L).flatten.length := by omega
    simp (maxSteps := 4000000) only [WC_seq, WC_region, WC_ret, contS_normal, contS_ret, contR_ap, WO_nil, WO_pp, contO_ap, atS_ap, atD_ap, W_some, W_mv, W_nilck, W_fadr, W_ixL, W_st, dpure, Ends_ret, ev_tmp, ev_const, putT_some, putT_none, get_put_eq, get_put_ne, Nat.reduceEqDiff, not_false_eq_true, ofList_get, List.getElem?_cons_zero, List.getElem?_cons_succ, Option.getD_some, dresults, tupled, Nat.zero_add, Nat.reduceAdd, st_wr, cells_int, cells_slice, List.length_cons, List.length_nil, allOne, oneCellD, Bool.and_self, Bool.and_true, Nat.beq_eq, Nat.ble_eq, Nat.blt_eq, Nat.reduceLeDiff, if_true, reduceCtorEq, DS.wrC, Cells.size, Cells.fillFrom, Cells.set, setN, DS.upd_get_ne, DS.upd_wr, Nat.add_zero, asIdx_cast, hb, hwb, hil, gq3, wq3, hqb, hbq, hgs, entV_set hx]
    have hsl : (L.set (pos k' L) (k', x)).length = L.length := List.length_set
    refine hQ _ ⟨by rw [hpe], .slice (some ⟨b, 0, sp⟩) L.length L.length, ⟨?_, ?_, ?_, ?_, ?_⟩, ?_, ?_⟩
    · simp (maxSteps := 4000000) only [not_false_eq_true, DS.upd_get_self, DS.upd_get_ne, Option.map_some, gq3, hqb]
    · simp (maxSteps := 4000000) only [DS.upd_wr, wq3]
    · rw [hpr]
      refine .inr ⟨b, sp, by rw [entV_len, hsl], hsp, ?_, ?_⟩
      · simp (maxSteps := 4000000) only [not_false_eq_true, DS.upd_get_self, DS.upd_get_ne, Option.map_some, hb, hbq]
      · simp (maxSteps := 4000000) only [DS.upd_wr, hwb]
    · simp [blk]; omega
    · rw [hpr]
      have := rise_put c.so k' x
      unfold putL at this
      rwa [if_pos hin] at this
    · exact (X13.trans (Ext.upd (F := [b]) (.inl (by simp))) (by simp; omega)).weaken (by simp) |>.trans' (Ext.upd (.inl (by simp)))
    · intro j hj
      simp [blk] at hj
      subst hj
      exact .inr hbn
  · have hin' : isAt k L = false := by simpa using hin
    rw [hin'] at hfind
    by_cases hfull : room ≤ (L.length : Int)
    · have hpe : putE k L room = 2 := by unfold putE; rw [if_neg hin, if_pos hfull]
      have hpr : putR k x L room = L := by unfold putR; rw [if_neg hin, if_pos hfull]
      have gq' := gq
      rw [hv, hel] at gq'
      simp (maxSteps := 4000000) only [WC_seq, WC_region, WC_cond, WC_skip, WC_ret, contS_normal, contS_ret, contR_ap, WO_nil, WO_pp, condC_true, condC_false, contO_ap, atS_ap, W_some, W_mv, W_bin, W_nilck, W_fadr, W_ext, W_blenL, W_ld, W_call, dpure, dbin, dint, Ends_ret, ev_tmp, ev_const, ev_func, putT_some, get_put_eq, get_put_ne, Nat.reduceEqDiff, not_false_eq_true, ofList_get, List.getElem?_cons_zero, List.getElem?_cons_succ, Option.getD_some, dresults, tupled, List.map_cons, List.map_nil, ldV_at, Cells.get, getN, Nat.zero_add, if_true, reduceCtorEq, pp, pv, Nat.add_zero, decide_true, d40, hfind, gq', hfull]
      exact hQ _ ⟨by rw [hpe], v, by rw [hpr]; exact c, .refl, fun j hj => .inl hj⟩
    · have hpe : putE k L room = 0 := by unfold putE; rw [if_neg hin, if_neg hfull]
      have hpr : putR k x L room = insAt L (pos k L) (k, x) := by unfold putR putL; rw [if_neg hin, if_neg hfull, if_neg hin]
      have gq' := gq
      rw [hv, hel] at gq'
      have hnq' : ∀ o, (s.new o).get q = some (.cells (.list [.slice av L.length L.length, .int .i64 room]) false) := fun o => (DS.new_get_lt hql).trans gq'
      have hnq2 : ∀ o o', ((s.new o).new o').get q = some (.cells (.list [.slice av L.length L.length, .int .i64 room]) false) := fun o o' => (DS.new_get_lt (show q < (s.new o).next from Nat.lt_succ_of_lt hql)).trans (hnq' o)
      have hq1 : Nat.ble s.next q = false := by rw [bleF]; omega
      have hq2 : Nat.ble (s.next + 1) q = false := by rw [bleF]; omega
      have hv' := hv
      rw [hel] at hv'
      obtain ⟨w1, e1, v1, _, b1⟩ := slV_ok c.sl (entV_ok L) (lo := none) (hi := some (.int .i64 (pos k L : Int))) (i := 0) (j := pos k L) rfl rfl (Nat.zero_le _) (by omega)
      obtain ⟨w2, e2, v2, _, b2⟩ := slV_ok c.sl (entV_ok L) (lo := some (.int .i64 (pos k L : Int))) (hi := none) (i := pos k L) (j := (entV L).length) rfl rfl (by omega) (Nat.le_refl _)
      have v1' : SlV s 2 w1 (entV (L.take (pos k L))) := by have := v1; rwa [List.drop_zero, show (entV L).take (pos k L) = entV (L.take (pos k L)) from List.map_take.symm] at this
      have v2' : SlV s 2 w2 (entV (L.drop (pos k L))) := by have := v2; rwa [List.take_length, show (entV L).drop (pos k L) = entV (L.drop (pos k L)) from List.map_drop.symm] at this
      rw [hv'] at e1 e2
      simp (maxSteps := 4000000) only [WC_seq, WC_region, WC_cond, WC_skip, contS_normal, contR_ap, WO_nil, WO_pp, WO_pn, WO_hn, condC_false, contO_ap, contN_ap, contHN_ap, atS_ap, atG_ap, atL_ap, W_some, W_mv, W_bin, W_nilck, W_build, W_fadr, W_ext, W_blenL, W_ld, W_call, dpure, dbin, dint, ev_tmp, ev_const, ev_func, putT_some, get_put_eq, get_put_ne, Nat.reduceEqDiff, not_false_eq_true, ofList_get, List.getElem?_cons_zero, List.getElem?_cons_succ, Option.getD_some, List.map_cons, List.map_nil, ldV_at, Cells.get, getN, Nat.zero_add, Nat.reduceAdd, cells_int, cells_agg, List.length_cons, List.length_nil, Bool.and_self, Bool.and_eq_true, Nat.beq_eq, Nat.ble_eq, Nat.reduceLeDiff, Nat.le_refl, and_self, if_true, reduceCtorEq, fillParts, List.take_zero, List.take_succ_cons, List.drop_succ_cons, List.drop_zero, List.nil_append, List.cons_append, List.drop_nil, List.append_nil, pp, pv, Option.map_some, nextN, nextM, W_slV, W_app, W_bslice, Option.map_none, repeatZ, Nat.reduceMul, atL_ap, unmask_mask, Nat.add_zero, Nat.zero_mul, decide_false, foot, mask_get, hidden, noteAt, Bool.or_false, Bool.false_and, d40, hfind, gq', hfull, hnq', hnq2, mask_get, hidden, noteAt, Bool.or_false, Bool.false_and, hq1, hq2, e1, e2]
      obtain ⟨S2, hS2⟩ : ∃ S2 : DS, S2 = (s.new (.cells (.list []) false)).new (.cells (.list [.int .i64 k, .int .i64 x]) false) := ⟨_, rfl⟩
      rw [← hS2]
      have X2 : Ext [] s S2 := by rw [hS2]; exact Ext.new.trans' Ext.new
      have hG2 := X2.good hG
      have n2 : S2.next = s.next + 2 := by rw [hS2]; rfl
      have ga : S2.get s.next = some (.cells (.list []) false) := by rw [hS2]; simp (maxSteps := 4000000) (maxDischargeDepth := 8) only [nextN, get_new_at, get_new_ne, good_new, Nat.lt_add_one, hG]
      have gb : S2.get (s.next + 1) = some (.cells (.list [.int .i64 k, .int .i64 x]) false) := by rw [hS2]; simp (maxSteps := 4000000) (maxDischargeDepth := 8) only [nextN, get_new_at, good_new, hG]
      have wa : S2.wr s.next = true := X2.wrs (hG _ (Nat.le_refl _)).2
      clear hS2
      have o1 : RowsOk 2 (entV (L.take (pos k L))) := entV_ok _
      have l1 : (entV (L.take (pos k L))).length ≤ 1000000 := by rw [entV_len, List.length_take]; omega
      have l2 : (entV (L.drop (pos k L))).length ≤ 1000000 := by rw [entV_len, List.length_drop]; omega
      refine W.mono (appM_ok (s := S2) (lx := []) (ly := entV (L.take (pos k L))) (.inr ⟨s.next, none, rfl, .inl rfl, ga, wa⟩) (v1'.of fun j hj => X2.get j (hvl j (b1 j hj)) (by simp)) RowsOk.nil o1 hG2 (by simp; omega) (by simp; omega) ?_ ?_ ?_) ?_
      · intro j hj
        simp [blk] at hj
        subst hj
        exact ⟨by (simp only [hidden, shielded, noteAt, memN, Bool.or_false, Bool.or_eq_false_iff, Bool.and_eq_false_iff, bleF, bltF, beqF, true_and, and_true, true_or, or_true] <;> omega), by (simp only [hidden, shielded, noteAt, memN, Bool.or_false, Bool.or_eq_false_iff, Bool.and_eq_false_iff, bleF, bltF, beqF, true_and, and_true, true_or, or_true] <;> omega)⟩
      · intro j hj
        have := hvl j (b1 j hj)
        (simp only [hidden, shielded, noteAt, memN, Bool.or_false, Bool.or_eq_false_iff, Bool.and_eq_false_iff, bleF, bltF, beqF, true_and, and_true, true_or, or_true] <;> omega)
      · intro j hj
        exact ⟨by (simp only [hidden, shielded, noteAt, memN, Bool.or_false, Bool.or_eq_false_iff, Bool.and_eq_false_iff, bleF, bltF, beqF, true_and, and_true, true_or, or_true] <;> omega), by (simp only [hidden, shielded, noteAt, memN, Bool.or_false, Bool.or_eq_false_iff, Bool.and_eq_false_iff, bleF, bltF, beqF, true_and, and_true, true_or, or_true] <;> omega)⟩
      rintro ⟨w3, s3⟩ ⟨x3, X3, b3, n3⟩
      simp only [List.nil_append] at x3 X3 b3 n3
      obtain ⟨S3, hS3⟩ : ∃ S3 : DS, S3 = unmask S2 s3 := ⟨_, rfl⟩
      rw [← hS3] at x3 X3 n3
      have hG3 := X3.good hG2
      have X3' : Ext [] s S3 := X2.trans X3 (by simp [blk])
      have hb3 : ∀ j, j ∈ blk w3 → s.next ≤ j := fun j hj => by
        rcases b3 j hj with h | h
        · simp [blk] at h; omega
        · omega
      have gb3 := X3.keep gb (by simp [blk])
      have gq3 := X3'.keep gq' (by simp)
      simp (maxSteps := 4000000) only [WO_hn, contHN_ap, ev_tmp, putT_some, get_put_eq, get_put_ne, Nat.reduceEqDiff, not_false_eq_true, Option.getD_some, List.nil_append, List.cons_append, W_app, foot, ← hS3, n3]
      refine W.mono (appM_ok (s := S3) (ly := entV [(k, x)]) x3 (.inr ⟨s.next + 1, 0, none, 1, rfl, by unfold DS.read; rw [gb3]; rfl⟩) o1 (entV_ok _) hG3 (by simp [entV]; omega) (by simp [entV]; omega) ?_ ?_ ?_) ?_
      · intro j hj
        have := hb3 j hj
        exact ⟨by (simp only [hidden, shielded, noteAt, memN, Bool.or_false, Bool.or_eq_false_iff, Bool.and_eq_false_iff, bleF, bltF, beqF, true_and, and_true, true_or, or_true] <;> omega), by (simp only [hidden, shielded, noteAt, memN, Bool.or_false, Bool.or_eq_false_iff, Bool.and_eq_false_iff, bleF, bltF, beqF, true_and, and_true, true_or, or_true] <;> omega)⟩
      · intro j hj
        (simp only [hidden, shielded, noteAt, memN, Bool.or_false, Bool.or_eq_false_iff, Bool.and_eq_false_iff, bleF, bltF, beqF, true_and, and_true, true_or, or_true] <;> omega)
      · intro j hj
        have := X3'.le
        exact ⟨by (simp only [hidden, shielded, noteAt, memN, Bool.or_false, Bool.or_eq_false_iff, Bool.and_eq_false_iff, bleF, bltF, beqF, true_and, and_true, true_or, or_true] <;> omega), by (simp only [hidden, shielded, noteAt, memN, Bool.or_false, Bool.or_eq_false_iff, Bool.and_eq_false_iff, bleF, bltF, beqF, true_and, and_true, true_or, or_true] <;> omega)⟩
      rintro ⟨w4, s4⟩ ⟨x4, X4, b4, n4⟩
      simp only at x4 X4 b4 n4
      obtain ⟨S4, hS4⟩ : ∃ S4 : DS, S4 = unmask S3 s4 := ⟨_, rfl⟩
      rw [← hS4] at x4 X4 n4
      have hG4 := X4.good hG3
      have X4' : Ext [] s S4 := X3'.trans X4 (fun j hj => .inr (hb3 j hj))
      have hb4 : ∀ j, j ∈ blk w4 → s.next ≤ j := fun j hj => by
        rcases b4 j hj with h | h
        · exact hb3 j h
        · have := X3'.le; omega
      simp (maxSteps := 4000000) only [WO_pn, contHN_ap, ev_tmp, putT_some, get_put_eq, get_put_ne, Nat.reduceEqDiff, not_false_eq_true, Option.getD_some, List.nil_append, List.cons_append, W_app, foot, ← hS4, n4]
      refine W.mono (appV_ok x4 (v2'.of fun j hj => X4'.get j (hvl j (b2 j hj)) (by simp)) (o1.append (entV_ok _)) (entV_ok _) hG4 (by simp [entV]; omega) (by simp [entV]; omega)) ?_
      rintro ⟨w5, s5⟩ ⟨x5, X5, b5⟩
      simp only at x5 X5 b5
      have X5' : Ext [] s s5 := X4'.trans X5 (fun j hj => .inr (hb4 j hj))
      have hb5 : ∀ j, j ∈ blk w5 → s.next ≤ j := fun j hj => by
        rcases b5 j hj with h | h
        · exact hb4 j h
        · have := X4'.le; omega
      have gq5 := X5'.keep gq' (by simp)
      have wq5 := X5'.wrs wq
      obtain ⟨a5, hw5⟩ := x5.shape
      subst hw5
      have hcat : entV (L.take (pos k L)) ++ entV [(k, x)] ++ entV (L.drop (pos k L)) = entV (insAt L (pos k L) (k, x)) := by
        unfold insAt entV
        rw [List.map_append, List.append_assoc]; rfl
      rw [hcat] at x5 hb5 ⊢
      simp (maxSteps := 4000000) only [WC_seq, WC_region, WC_ret, contS_normal, contR_ap, WO_nil, WO_pp, WO_pn, contO_ap, contN_ap, atS_ap, atD_ap, W_some, W_mv, W_nilck, W_fadr, W_st, dpure, Ends_ret, ev_tmp, ev_const, putT_some, putT_none, get_put_eq, get_put_ne, Nat.reduceEqDiff, not_false_eq_true, Option.getD_some, dresults, tupled, Nat.zero_add, Nat.reduceAdd, st_wr, cells_slice, List.length_cons, List.length_nil, allOne, oneCellD, Bool.and_self, Bool.and_true, Nat.beq_eq, Nat.ble_eq, Nat.reduceLeDiff, if_true, DS.wrC, Cells.size, Cells.fillFrom, Cells.set, setN, List.nil_append, List.cons_append, DS.upd_next, Nat.add_zero, foot, gq5, wq5]
      refine hQ _ ⟨by rw [hpe], .slice a5 (entV (insAt L (pos k L) (k, x))).length (entV (insAt L (pos k L) (k, x))).length, ⟨?_, ?_, ?_, ?_, ?_⟩, ?_, ?_⟩
      · simp (maxSteps := 4000000) only [DS.upd_get_self, Option.map_some, gq5]
      · simp (maxSteps := 4000000) only [DS.upd_wr, wq5]
      · rw [hpr]
        exact x5.keep (Ext.upd (F := [q]) (.inl (by simp))) fun j hj => by have := hb5 j hj; simp; omega
      · intro hq
        have := hb5 q hq
        omega
      · rw [hpr]
        have := rise_put c.so k x
        unfold putL at this
        rwa [if_neg hin] at this
      · exact (X5'.weaken (by simp)).trans' (Ext.upd (.inl (by simp)))
      · exact fun j hj => .inr (hb5 j hj)
theorem rnew_ok (hroom : 0 ≤ room ∧ room ≤ 4096) (hG : s.Good) : W (dcall E (d + 1) (.func (.func 39) #[] #[]) [.int .i64 room] s) fun r => r.1 = .tuple ⟨[.pointer (some ⟨s.next, 0, none⟩), .int .i64 0]⟩ ∧ RefS r.2 s.next (.slice none 0 0) [] room ∧ Ext [] s r.2 := by
  refine W_cps fun Q hQ => ?_
  rw [W_enter0 hR.iNew hR.fNew rfl]
  have e1 : ¬ room < 0 := by omega
  have e2 : ¬ 4096 < room := by omega
  simp (maxSteps := 4000000) (maxDischargeDepth := 8) only [WC_seq, WC_region, WC_cond, WC_skip, WC_ret, contS_normal, contR_ap, WO_nil, WO_pp, WO_g, gateO_ff, condC_false, contO_ap, atS_ap, atG_ap, W_some, W_mv, W_pick, W_bin, W_build, W_box, dpure, dbin, dint, Ends_ret, ev_tmp, ev_const, putT_some, get_put_eq, get_put_ne, not_false_eq_true, ofList_get, List.getElem?_cons_zero, Option.getD_some, dresults, tupled, Nat.zero_add, Nat.reduceAdd, cells_int, cells_agg, List.length_cons, List.length_nil, Bool.and_self, Bool.and_eq_true, Nat.beq_eq, Nat.ble_eq, Nat.le_refl, and_self, if_true, if_false, Bool.false_eq_true, fillParts, List.take_zero, List.take_succ_cons, List.drop_succ_cons, List.nil_append, List.cons_append, List.drop_nil, List.append_nil, pp, pv, pw, pg, decide_false, eq_lt, Nat.reduceLT, Nat.lt_add_one, Nat.succ_pos, d39, e1, e2, hG]
  exact hQ _ ⟨rfl, ⟨DS.new_get_self hG, (hG _ (Nat.le_refl _)).2, .nil, by simp [blk], .nil⟩, Ext.new⟩
end
end Go.Dx.OvA
/- A store and its reference, of some entries (made by tools/gen.py out of base.t). -/
set_option linter.unusedVariables false
set_option linter.unusedSimpArgs false
set_option linter.unusedSectionVars false
set_option maxRecDepth 100000
set_option maxHeartbeats 4000000
namespace Go.Dx.OvA
open Go Go.Dx Go.Dx.Search Go.Dx.St Go.Proofs.Ytlpjlananbjgcaa
theorem InRow.keep {s s' : DS} {F : List Nat} {v : Value} {l : List (List Value)} (h : InRow s v l) (e : Ext F s s') (hF : ∀ k, k ∈ F → ∀ c, s.get k ≠ some (.cells c true)) : InRow s' v l := by
  rcases h with h | ⟨b, c, h1, h2⟩
  · exact .inl h
  · exact .inr ⟨b, c, h1, e.keep h2 fun hb => hF b hb _ h2⟩
theorem StAt.notRo {s : DS} {p : Nat} {kv vv : Value} {L : List Ent} {room : Int} (c : StAt s p kv vv L room) : ∀ k, k ∈ own p kv vv → ∀ x, s.get k ≠ some (.cells x true) := by
  intro k hk x hx
  simp only [own, List.mem_cons, List.mem_append] at hk
  rcases hk with rfl | hk | hk
  · rw [c.gp] at hx; cases hx
  · rcases c.ks with ⟨rfl, _⟩ | ⟨b, sp, cc, ext, rfl, h⟩
    · simp [blk] at hk
    · simp [blk] at hk; subst hk; rw [h.get] at hx; cases hx
  · rcases c.vs with ⟨rfl, _⟩ | ⟨b, sp, cc, ext, rfl, h⟩
    · simp [blk] at hk
    · simp [blk] at hk; subst hk; rw [h.get] at hx; cases hx
def rowK (x : List Value) : Int := numV (getN x 1)
def rowV (x : List Value) : Int := numV (getN x 2)
def puR (room : Int) (rows : List (List Value)) : List Ent := rows.foldl (fun L x => putR (rowK x) (rowV x) L room) []
theorem puR_snoc (room : Int) (rows : List (List Value)) (x : List Value) : puR room (rows ++ [x]) = putR (rowK x) (rowV x) (puR room rows) room := by unfold puR; rw [List.foldl_append]; rfl
/-- what a row says -/
theorem row3 {s : DS} {v0 : Value} {l : List (List Value)} (hr : InRow s v0 l) (hl : ∀ x, x ∈ l → FitK [.int .i64, .int .i64, .int .i64] x) {i : Nat} (hi : i < l.length) :
    ∃ x vb vc, l[i]? = some x ∧ v0 = .slice (some ⟨vb, 0, none⟩) l.length vc ∧ s.get vb = some (.cells (.list l.flatten) true) ∧ getN l.flatten (i * 3) = some (.int .i64 (numV (getN x 0))) ∧ getN l.flatten (i * 3 + 1) = some (.int .i64 (rowK x)) ∧ getN l.flatten (i * 3 + 2) = some (.int .i64 (rowV x)) := by
  obtain ⟨x, hx⟩ : ∃ x, l[i]? = some x := ⟨l[i], List.getElem?_eq_getElem hi⟩
  have hfx := hl x (List.mem_of_getElem? hx)
  obtain ⟨x0, r0, rfl, ⟨kind, rfl, _⟩, hf0⟩ := FitK.cons hfx
  obtain ⟨x1, r1, rfl, ⟨K, rfl, hK⟩, hf1⟩ := FitK.cons hf0
  obtain ⟨x2, r2, rfl, ⟨V, rfl, hV⟩, hf2⟩ := FitK.cons hf1
  obtain rfl := FitK.nil hf2
  have hm3 : ∀ y, y ∈ l → y.length = 3 := fun y hy => FitK.length (hl y hy)
  rcases hr with ⟨_, rfl⟩ | ⟨vb, vc, rfl, hb⟩
  · simp at hx
  · have h0 := flatten_get (j := 0) hm3 hx rfl
    rw [Nat.add_zero] at h0
    exact ⟨_, vb, vc, hx, rfl, hb, h0, flatten_get (j := 1) hm3 hx rfl, flatten_get (j := 2) hm3 hx rfl⟩
structure BaseI (s0 : DS) (p q : Nat) (room : Int) (v0 : Value) (l : List (List Value)) (n : Nat) (x : St) : Prop where
  ex : ∃ (i : Nat) (kv vv w : Value), n = 101 - i ∧ i ≤ 100 ∧ i ≤ l.length ∧ x.defers = [] ∧
    (x.t.get 1 = some v0 ∧ x.t.get 6 = some (.pointer (some ⟨p, 0, none⟩)) ∧ x.t.get 8 = some (.pointer (some ⟨q, 0, none⟩)) ∧ x.t.get 10 = some (.int .i64 (i : Int))) ∧
    StAt x.s p kv vv (puR room (l.take i)) room ∧ RefS x.s q w (puR room (l.take i)) room ∧ (∀ k, k ∈ own p kv vv → k ≠ q ∧ k ∉ blk w ∧ s0.next ≤ k) ∧ (∀ k, k ∈ q :: blk w → s0.next ≤ k) ∧ Ext [] s0 x.s
structure BaseFns (E : Env) : Prop where
  fBase : E.fn 17 = some d17
  iBase : E.intr 17 = none
section
variable {E : Env} (hE : Fns E) (hR : R3Fns E) (hBa : BaseFns E) {s : DS} {d : Nat} {v0 : Value} {l : List (List Value)} {room : Int}
include hE hR hBa
theorem Base_ok (hG : s.Good) (hroom : 0 ≤ room ∧ room ≤ 4096) (hr : InRow s v0 l) (hl : ∀ x, x ∈ l → FitK [.int .i64, .int .i64, .int .i64] x) :
    W (dcall E (d + 7) (.func (.func 17) #[] #[]) [.int .i64 room, v0] s) fun r => ∃ p q kv vv w, r.1 = .tuple ⟨[.pointer (some ⟨p, 0, none⟩), .pointer (some ⟨q, 0, none⟩)]⟩ ∧ StAt r.2 p kv vv (puR room (l.take 100)) room ∧ RefS r.2 q w (puR room (l.take 100)) room ∧ (∀ k, k ∈ own p kv vv → k ≠ q ∧ k ∉ blk w ∧ s.next ≤ k) ∧ (∀ k, k ∈ q :: blk w → s.next ≤ k) ∧ Ext [] s r.2 := by
  have hlf := hE.lf
  refine W_cps fun Q hQ => ?_
  rw [W_enter0 hBa.iBase hBa.fBase rfl]
  simp (maxSteps := 4000000) only [WC_seq, WC_region, contS_normal, contR_ap, WO_nil, WO_pp, contO_ap, W_mv, W_call, ev_tmp, ev_const, ev_func, putT_some, get_put_eq, get_put_ne, not_false_eq_true, ofList_get, List.getElem?_cons_zero, Option.getD_some, List.map_cons, List.map_nil, reduceCtorEq, pp, pv, pw, pg, d17]
  refine W.mono (New_ok hE (d := d + 5) hG room) ?_
  rintro ⟨r, s1⟩ ⟨X1, ⟨_, _, hr1, c1⟩ | ⟨hno, _⟩⟩
  rotate_left
  · exfalso; omega
  simp only at X1 hr1 c1
  subst hr1
  have hG1 := X1.good hG
  have hpl := DS.get_lt' c1.gp
  simp (maxSteps := 4000000) only [WC_seq, WC_region, contS_normal, contR_ap, WO_nil, WO_pp, contO_ap, atS_ap, W_some, W_mv, W_ext, W_call, dpure, ev_tmp, ev_func, putT_some, get_put_eq, get_put_ne, Nat.reduceEqDiff, not_false_eq_true, ofList_get, List.getElem?_cons_zero, Option.getD_some, List.map_cons, List.map_nil, getN, reduceCtorEq]
  refine W.mono (rnew_ok hR (d := d + 5) hroom hG1) ?_
  rintro ⟨r, s2⟩ ⟨hr2, c2, X2⟩
  simp only at X2 hr2 c2
  subst hr2
  have hG2 := X2.good hG1
  simp (maxSteps := 4000000) only [WC_seq, WC_region, WC_cond, WC_block, WC_skip, contS_normal, contR_ap, WO_nil, WO_pp, WO_g, gateO_ff, condC_false, contO_ap, atS_ap, W_some, W_mv, W_pick, W_bin, W_ext, dpure, dbin, dint, ev_tmp, ev_const, putT_some, get_put_eq, get_put_ne, Nat.reduceEqDiff, not_false_eq_true, Option.getD_some, getN, if_true, if_false, Bool.not_true, Bool.false_eq_true, decide_true]
  have c1' := c1.keep X2 (by simp)
  refine WC_loop (BaseI s s.next s1.next room v0 l) 101 (by omega) ⟨0, _, _, _, rfl, by omega, by omega, rfl, ?_, c1', c2, ?_, ?_, X1.trans' X2⟩ ?_
  · simp (maxSteps := 4000000) only [get_put_eq, get_put_ne, Nat.reduceEqDiff, not_false_eq_true, ofList_get, List.getElem?_cons_zero, List.getElem?_cons_succ, Bool.true_and, true_and]
    rfl
  · intro k hk
    simp [own, blk] at hk
    subst hk
    exact ⟨by omega, by simp [blk], Nat.le_refl _⟩
  · intro k hk
    simp [blk] at hk
    subst hk
    exact X1.le
  obtain ⟨p, hp⟩ : ∃ p, p = s.next := ⟨_, rfl⟩
  obtain ⟨q, hq⟩ : ∃ q, q = s1.next := ⟨_, rfl⟩
  rw [← hp, ← hq]
  rintro n ⟨t, s3, ds⟩ hn ⟨i, kv, vv, w, rfl, hi, hil, hds, ⟨g1, g6, g8, g10⟩, cA, cR, hA, hRw, X3⟩
  simp only at hds g1 g6 g8 g10 cA cR X3
  subst hds
  have hG3 := X3.good hG
  have hpA : p ∈ own p kv vv := List.mem_cons_self ..
  have hlen := cA.len
  by_cases c1 : i < l.length ∧ i < 100
  · obtain ⟨hi1, hi2⟩ := c1
    have e1 : (i : Int) < (l.length : Int) := by omega
    have e2 : (i : Int) < 100 := by omega
    have w1 : dwrap .i64 ((i : Int) + 1) = ((i + 1 : Nat) : Int) := by rw [dwrap_in (by omega) (by omega)]; omega
    obtain ⟨x, vb, vc, hx, hv0, hb, _, q1, q2⟩ := row3 (InRow.keep hr X3 (by simp)) hl hi1
    rw [hv0] at g1
    have htk : l.take (i + 1) = l.take i ++ [x] := by rw [List.take_add_one, hx]; rfl
    simp (maxSteps := 4000000) only [WC_seq, WC_region, WC_cond, WC_block, WC_skip, contS_normal, contR_ap, WO_nil, WO_pp, WO_g, gateO_tt, condC_true, contO_ap, atS_ap, W_some, W_mv, W_pick, W_bin, W_fadr, W_ixL, W_blenL, W_ld, W_call, dpure, dbin, dint, ev_tmp, ev_const, ev_func, putT_some, get_put_eq, get_put_ne, Nat.reduceEqDiff, not_false_eq_true, Option.getD_some, List.map_cons, List.map_nil, ldV_at, Cells.get, Nat.zero_add, Nat.blt_eq, if_true, asIdx_cast, decide_true, g1, g6, g8, g10, e1, e2, hb, q1, q2, hi1]
    refine W.mono (Put_ok hE cA hG3 (rowK x) (rowV x) (by omega)) ?_
    rintro ⟨v4, s4⟩ ⟨_, kv4, vv4, cA4, X4, o4⟩
    simp only at cA4 X4 o4
    have hb4 := X4.keep hb (fun hk => cA.notRo _ hk _ hb)
    have hqA : q ∉ own p kv vv := fun hk => (hA q hk).1 rfl
    have hwA : ∀ k, k ∈ blk w → k ∉ own p kv vv := fun k hk hk2 => (hA k hk2).2.1 hk
    have cR4 := cR.keep X4 hqA hwA
    have hG4 := X4.good hG3
    have hwl := cR.sl.lt
    have hql := DS.get_lt' cR.gq
    have hA4 : ∀ k, k ∈ own p kv4 vv4 → k ≠ q ∧ k ∉ blk w ∧ s.next ≤ k := fun k hk => by
      rcases o4 k hk with h | h
      · exact hA k h
      · have := X3.le
        exact ⟨by omega, fun h2 => by have := hwl k h2; omega, by omega⟩
    simp (maxSteps := 4000000) only [WC_region, contS_normal, contR_ap, WO_nil, WO_pp, contO_ap, atS_ap, W_some, W_mv, W_fadr, W_ixL, W_ld, W_call, dpure, ev_tmp, ev_func, putT_some, get_put_eq, get_put_ne, Nat.reduceEqDiff, not_false_eq_true, Option.getD_some, List.map_cons, List.map_nil, ldV_at, Cells.get, Nat.zero_add, Nat.blt_eq, if_true, asIdx_cast, g1, g6, g8, g10, hb4, q1, q2, hi1]
    refine W.mono (rput_ok hR (d := d + 4) (by omega) (by omega) cR4 hG4 (rowK x) (rowV x)) ?_
    rintro ⟨v5, s5⟩ ⟨_, w5, cR5, X5, o5⟩
    simp only at cR5 X5 o5
    have cA5 := cA4.keep X5 (fun k hk => by simp; exact (hA4 k hk).1)
    have hAl := cA4.lt
    simp (maxSteps := 4000000) only [WC_region, contS_normal, contB_normal, contR_ap, contL_normal, WO_nil, WO_pp, contO_ap, atS_ap, W_some, W_mv, W_bin, dbin, dint, ev_tmp, ev_const, putT_some, get_put_eq, get_put_ne, Nat.reduceEqDiff, not_false_eq_true, Option.getD_some, if_true, g1, g6, g8, g10, w1]
    refine ⟨101 - (i + 1), by omega, ⟨i + 1, kv4, vv4, w5, rfl, by omega, by omega, rfl, by simp (maxSteps := 4000000) only [get_put_eq, get_put_ne, Nat.reduceEqDiff, not_false_eq_true, Bool.and_self, and_self, g1, g6, g8, hv0], ?_, ?_, fun k hk => ?_, fun k hk => ?_, ?_⟩⟩
    · rw [htk, puR_snoc]; exact cA5
    · rw [htk, puR_snoc]; exact cR5
    · refine ⟨(hA4 k hk).1, fun h => ?_, (hA4 k hk).2.2⟩
      rcases o5 k h with h | h
      · exact (hA4 k hk).2.1 h
      · have := hAl k hk; omega
    · rcases List.mem_cons.1 hk with rfl | hk
      · exact hRw _ (List.mem_cons_self ..)
      · rcases o5 k hk with h | h
        · exact hRw k (List.mem_cons_of_mem _ h)
        · have := X3.le; have := X4.le; omega
    · exact (X3.trans X4 fun k hk => .inr (hA k hk).2.2).trans X5 fun k hk => by
        simp at hk; subst hk; exact .inr (hRw _ (List.mem_cons_self ..))
  · have htk : l.take i = l.take 100 := by
      by_cases h : i < l.length
      · have : i = 100 := by omega
        rw [this]
      · rw [List.take_of_length_le (by omega), List.take_of_length_le (by omega)]
    rw [htk] at cA cR
    have hvl : ∃ a c, v0 = .slice a l.length c := by
      rcases hr with ⟨rfl, rfl⟩ | ⟨b, c, rfl, _⟩
      · exact ⟨_, _, rfl⟩
      · exact ⟨_, _, rfl⟩
    obtain ⟨a, cc, hv0⟩ := hvl
    rw [hv0] at g1
    have hfin := hQ (.tuple ⟨[.pointer (some ⟨p, 0, none⟩), .pointer (some ⟨q, 0, none⟩)]⟩, s3) ⟨p, q, kv, vv, w, rfl, cA, cR, hA, hRw, X3⟩
    by_cases c2 : (i : Int) < (l.length : Int)
    · have c3 : ¬ (i : Int) < 100 := by omega
      simp (maxSteps := 4000000) only [WC_seq, WC_region, WC_cond, WC_ret, WC_exit, contS_normal, contS_exit, contB_exit, contR_ap, contL_exit, WO_nil, WO_pp, WO_g, gateO_tt, condC_false, contO_ap, atS_ap, W_some, W_mv, W_pick, W_bin, W_blenL, dpure, dbin, dint, Ends_ret, ev_tmp, ev_const, putT_some, get_put_eq, get_put_ne, Nat.reduceEqDiff, not_false_eq_true, Option.getD_some, dresults, tupled, if_true, decide_true, decide_false, g1, g6, g8, g10, c2, c3]
      exact hfin
    · simp (maxSteps := 4000000) only [WC_seq, WC_region, WC_cond, WC_ret, WC_exit, contS_normal, contS_exit, contB_exit, contR_ap, contL_exit, WO_nil, WO_pp, WO_g, gateO_ft, condC_false, contO_ap, atS_ap, W_some, W_mv, W_pick, W_bin, W_blenL, dpure, dbin, dint, Ends_ret, ev_tmp, ev_const, putT_some, get_put_eq, get_put_ne, Nat.reduceEqDiff, not_false_eq_true, Option.getD_some, dresults, tupled, if_true, if_false, Bool.false_eq_true, List.nil_append, decide_false, g1, g6, g8, g10, c2]
      exact hfin
end
end Go.Dx.OvA
/- A store's fork (made by tools/gen.py out of fork.t). -/
set_option linter.unusedVariables false
set_option linter.unusedSimpArgs false
set_option linter.unusedSectionVars false
set_option maxRecDepth 100000
set_option maxHeartbeats 4000000
namespace Go.Dx.OvA
open Go Go.Dx Go.Dx.Search Go.Dx.St Go.Proofs.Ytlpjlananbjgcaa
structure FkFns (E : Env) : Prop where
  fClone : E.fn 53 = some d53
  iClone : E.intr 53 = none
  fFork : E.fn 32 = some d32
  iFork : E.intr 32 = none
  fr : ∀ d, CallFrame (dcall E d)
section
variable {E : Env} (hK : FkFns E) {s : DS} {d : Nat} {v : Value} {l : List Int} {p : Nat} {kv vv : Value} {L : List Ent} {room : Int}
include hK
theorem Clone_ok (h : SlC s 1 v (ints l)) (hG : s.Good) (hl : l.length ≤ 1000000) : W (dcall E (d + 1) (.func (.func 53) #[] #[]) [v] s) fun r => SlX r.2 1 r.1 (ints l) ∧ Ext [] s r.2 ∧ ∀ k, k ∈ blk r.1 → s.next ≤ k := by
  refine W_cps fun Q hQ => ?_
  rw [W_enter0 hK.iClone hK.fClone rfl]
  have hv := h.view (ints_ok l)
  have hlt := h.lt
  have hil := ints_len l
  rcases hv with ⟨rfl, h0⟩ | ⟨b, off, sp, c, rfl, hrd⟩
  · have hl0 : l = [] := by simpa [ints] using h0
    subst hl0
    simp (maxSteps := 4000000) only [WC_seq, WC_region, WC_cond, WC_ret, contS_normal, contS_ret, contR_ap, WO_nil, WO_pp, condC_true, contO_ap, atB_ap, W_some, W_mv, W_eq1, eqOne, Ends_ret, ev_tmp, ev_const, putT_some, get_put_eq, get_put_ne, not_false_eq_true, ofList_get, List.getElem?_cons_zero, Option.getD_some, dresults, tupled, if_false, reduceCtorEq, Bool.not_true, Bool.false_eq_true, pp, pv, Option.isNone_none, d53]
    exact hQ _ ⟨.nil, .refl, by simp [blk]⟩
  · simp (maxSteps := 4000000) only [WC_seq, WC_region, WC_cond, WC_skip, contS_normal, contR_ap, WO_nil, WO_pp, condC_false, contO_ap, atB_ap, atL_ap, W_some, W_mv, W_eq1, eqOne, ev_tmp, ev_const, putT_some, get_put_eq, get_put_ne, Nat.reduceEqDiff, not_false_eq_true, ofList_get, List.getElem?_cons_zero, Option.getD_some, Nat.ble_eq, Nat.reduceLeDiff, if_false, reduceCtorEq, Bool.not_false, Bool.false_eq_true, fillParts, pp, pv, W_app, W_bslice, repeatZ, atL_ap, Nat.mul_one, d53]
    refine W.mono (appV_ok (lx := []) (ly := ints l) (.inr ⟨s.next, none, rfl, .inl rfl, DS.new_get_self hG, (hG _ (Nat.le_refl _)).2⟩) ((h.view (ints_ok l)).of fun j hj => DS.new_get_lt (hlt j hj)) RowsOk.nil (ints_ok l) (DS.new_good hG) (by simp; omega) (by simp; omega)) ?_
    rintro ⟨w3, s3⟩ ⟨x3, X3, b3⟩
    simp only [blk, List.nil_append] at x3 X3 b3
    simp (maxSteps := 4000000) only [WC_ret, contS_normal, contR_ap, WO_nil, WO_pp, contO_ap, W_some, W_mv, Ends_ret, ev_tmp, putT_some, get_put_eq, Option.getD_some, dresults, tupled]
    refine hQ _ ⟨x3, (Ext.new (F := [])).trans X3 (by simp), fun k hk => ?_⟩
    rcases b3 k hk with h | h
    · simp at h; omega
    · have : s.next + 1 ≤ k := h
      omega
theorem Fork_ok (c : StAt s p kv vv L room) (hG : s.Good) : W (dcall E (d + 2) (.func (.func 32) #[] #[]) [.pointer (some ⟨p, 0, none⟩)] s) fun r => ∃ p' kv' vv', r.1 = .pointer (some ⟨p', 0, none⟩) ∧ StAt r.2 p' kv' vv' L room ∧ Ext [] s r.2 ∧ ∀ k, k ∈ own p' kv' vv' → s.next ≤ k := by
  have gp := c.gp
  have hpl := DS.get_lt' gp
  have hlen := c.len
  refine W_cps fun Q hQ => ?_
  rw [W_enter0 hK.iFork hK.fFork rfl]
  have hkl : (L.map (·.1)).length ≤ 1000000 := by rw [List.length_map]; omega
  have hvl : (L.map (·.2)).length ≤ 1000000 := by rw [List.length_map]; omega
  have hkp := c.pk
  have hvp := c.pv
  simp (maxSteps := 4000000) only [WC_seq, WC_region, WC_cond, WC_skip, contS_normal, contR_ap, WO_nil, WO_pp, WO_pn, WO_hn, condC_false, contO_ap, contN_ap, atS_ap, atB_ap, W_some, W_mv, W_eq1, W_nilck, W_fadr, W_ld, W_call, dpure, eqOne, ev_tmp, ev_const, ev_func, putT_some, get_put_eq, get_put_ne, Nat.reduceEqDiff, not_false_eq_true, ofList_get, List.getElem?_cons_zero, Option.getD_some, List.map_cons, List.map_nil, ldV_at, Cells.get, getN, Nat.zero_add, if_false, reduceCtorEq, Bool.not_false, Bool.false_eq_true, List.nil_append, List.cons_append, pp, pv, Nat.add_zero, foot, d32, gp]
  refine W.masked (hK.fr _) (Clone_ok hK (d := d) (c.ks.of (s' := mask _ _ _) fun k hk => ?_) (mask_good hG fun k hk => ?_) hkl) ?_
  · have : ¬ k = p := fun h => hkp (h ▸ hk)
    exact ⟨mask_get (by (simp only [hidden, shielded, noteAt, memN, Bool.or_false, Bool.or_eq_false_iff, Bool.and_eq_false_iff, bleF, bltF, beqF, true_and, and_true, true_or, or_true] <;> omega)), fun hw => mask_wr hw (by (simp only [hidden, shielded, noteAt, memN, Bool.or_false, Bool.or_eq_false_iff, Bool.and_eq_false_iff, bleF, bltF, beqF, true_and, and_true, true_or, or_true] <;> omega)) (by (simp only [hidden, shielded, noteAt, memN, Bool.or_false, Bool.or_eq_false_iff, Bool.and_eq_false_iff, bleF, bltF, beqF, true_and, and_true, true_or, or_true] <;> omega))⟩
  · exact ⟨by (simp only [hidden, shielded, noteAt, memN, Bool.or_false, Bool.or_eq_false_iff, Bool.and_eq_false_iff, bleF, bltF, beqF, true_and, and_true, true_or, or_true] <;> omega), by (simp only [hidden, shielded, noteAt, memN, Bool.or_false, Bool.or_eq_false_iff, Bool.and_eq_false_iff, bleF, bltF, beqF, true_and, and_true, true_or, or_true] <;> omega)⟩
  rintro v1 s1 ⟨x1, X1, b1⟩ df
  simp only at x1 X1 b1
  have X1' := Ext.unmask' X1 df
  have x1' := x1.of (s' := unmask s s1) fun k hk => ⟨unmask_at (by (simp only [hidden, shielded, noteAt, memN, Bool.or_false, Bool.or_eq_false_iff, Bool.and_eq_false_iff, bleF, bltF, beqF, true_and, and_true, true_or, or_true] <;> omega)) X1, fun hw => by
    rw [X1.wr] at hw
    simp [mask] at hw
    exact hw.1.1⟩
  obtain ⟨S1, hS1⟩ : ∃ S1 : DS, S1 = unmask s s1 := ⟨_, rfl⟩
  have n1 : s1.next = S1.next := by rw [hS1]; rfl
  rw [← hS1] at X1' x1'
  have hG1 := X1'.good hG
  have c1 := c.keep X1' (by simp)
  simp (maxSteps := 4000000) only [WO_hn, contHN_ap, W_call, ev_tmp, ev_func, putT_some, get_put_eq, get_put_ne, Nat.reduceEqDiff, not_false_eq_true, Option.getD_some, List.map_cons, List.map_nil, List.nil_append, List.cons_append, foot, ← hS1, n1]
  refine W.masked (hK.fr _) (Clone_ok hK (d := d) (c1.vs.of (s' := mask _ _ _) fun k hk => ?_) (mask_good hG1 fun k hk => ?_) hvl) ?_
  · have : ¬ k = p := fun h => hvp (h ▸ hk)
    exact ⟨mask_get (by (simp only [hidden, shielded, noteAt, memN, Bool.or_false, Bool.or_eq_false_iff, Bool.and_eq_false_iff, bleF, bltF, beqF, true_and, and_true, true_or, or_true] <;> omega)), fun hw => mask_wr hw (by (simp only [hidden, shielded, noteAt, memN, Bool.or_false, Bool.or_eq_false_iff, Bool.and_eq_false_iff, bleF, bltF, beqF, true_and, and_true, true_or, or_true] <;> omega)) (by (simp only [hidden, shielded, noteAt, memN, Bool.or_false, Bool.or_eq_false_iff, Bool.and_eq_false_iff, bleF, bltF, beqF, true_and, and_true, true_or, or_true] <;> omega))⟩
  · have := X1'.le
    exact ⟨by (simp only [hidden, shielded, noteAt, memN, Bool.or_false, Bool.or_eq_false_iff, Bool.and_eq_false_iff, bleF, bltF, beqF, true_and, and_true, true_or, or_true] <;> omega), by (simp only [hidden, shielded, noteAt, memN, Bool.or_false, Bool.or_eq_false_iff, Bool.and_eq_false_iff, bleF, bltF, beqF, true_and, and_true, true_or, or_true] <;> omega)⟩
  rintro v2 s2 ⟨x2, X2, b2⟩ df2
  simp only at x2 X2 b2
  have X2' := Ext.unmask' X2 df2
  have x2' := x2.of (s' := unmask S1 s2) fun k hk => ⟨unmask_at (by (simp only [hidden, shielded, noteAt, memN, Bool.or_false, Bool.or_eq_false_iff, Bool.and_eq_false_iff, bleF, bltF, beqF, true_and, and_true, true_or, or_true] <;> omega)) X2, fun hw => by
    rw [X2.wr] at hw
    simp [mask] at hw
    exact hw.1.1⟩
  obtain ⟨S2, hS2⟩ : ∃ S2 : DS, S2 = unmask S1 s2 := ⟨_, rfl⟩
  have n2 : s2.next = S2.next := by rw [hS2]; rfl
  rw [← hS2] at X2' x2'
  have hG2 := X2'.good hG1
  have x1'' := x1'.keep X2' (by simp)
  have hlt1 := x1'.lt
  have hlt1' := x1''.lt
  have hlt2 := x2'.lt
  obtain ⟨a1, hv1⟩ := x1.shape
  obtain ⟨a2, hv2⟩ := x2.shape
  subst hv1 hv2
  simp (maxSteps := 4000000) only [WC_ret, contS_normal, contR_ap, WO_nil, WO_pn, contN_ap, contHN_ap, atG_ap, W_some, W_mv, W_build, W_box, Ends_ret, ev_tmp, putT_some, get_put_eq, get_put_ne, Nat.reduceEqDiff, not_false_eq_true, Option.getD_some, dresults, tupled, Nat.zero_add, Nat.reduceAdd, cells_int, cells_slice, cells_agg, List.length_cons, List.length_nil, Bool.and_self, Bool.and_eq_true, Nat.beq_eq, Nat.ble_eq, Nat.reduceLeDiff, Nat.le_refl, and_self, if_true, fillParts, List.take_zero, List.take_succ_cons, List.drop_succ_cons, List.drop_zero, List.nil_append, List.cons_append, List.drop_nil, List.append_nil, nextN, foot, ← hS2, n2]
  have hX : Ext [] s S2 := X1'.trans' X2'
  have hb1 : ∀ k, k ∈ blk (.slice a1 (ints (L.map (·.1))).length (ints (L.map (·.1))).length) → s.next ≤ k := b1
  have hb2 : ∀ k, k ∈ blk (.slice a2 (ints (L.map (·.2))).length (ints (L.map (·.2))).length) → S1.next ≤ k := b2
  have XN : ∀ ob, Ext [] S2 (S2.new ob) := fun ob => Ext.new
  refine hQ _ ⟨S2.next, _, _, rfl, ⟨DS.new_get_self hG2, (hG2 _ (Nat.le_refl _)).2, ?_, ?_, ?_, ?_, ?_, c.so, c.len⟩, hX.trans' Ext.new, ?_⟩
  · exact (x1''.keep (XN _) (by simp)).room (ints_ok _) (by rw [ints_len]; omega)
  · exact (x2'.keep (XN _) (by simp)).room (ints_ok _) (by rw [ints_len]; omega)
  · exact fun hk => Nat.lt_irrefl _ (hlt1' _ hk)
  · exact fun hk => Nat.lt_irrefl _ (hlt2 _ hk)
  · intro k hk hk2
    have h1 := hlt1 k hk
    have h2 := hb2 k hk2
    omega
  · intro k hk
    simp only [own, List.mem_cons, List.mem_append] at hk
    rcases hk with rfl | hk | hk
    · exact hX.le
    · exact hb1 k hk
    · have := hb2 k hk; have := X1'.le; omega
end
end Go.Dx.OvA
/- Overlays, whatever was changed (made by tools/gen.py out of ov.t). -/
set_option linter.unusedVariables false
set_option linter.unusedSimpArgs false
set_option linter.unusedSectionVars false
set_option maxRecDepth 100000
set_option maxHeartbeats 4000000
namespace Go.Dx.OvA
open Go Go.Dx Go.Dx.Search Go.Dx.St Go.Proofs.Ytlpjlananbjgcaa
structure OvFns (E : Env) : Prop where
  fNew : E.fn 18 = some d18
  iNew : E.intr 18 = none
  fMade : E.fn 33 = some d33
  iMade : E.intr 33 = none
  fGet : E.fn 9 = some d9
  iGet : E.intr 9 = none
  fPut : E.fn 12 = some d12
  iPut : E.intr 12 = none
  fDel : E.fn 13 = some d13
  iDel : E.intr 13 = none
  fDrop : E.fn 8 = some d8
  iDrop : E.intr 8 = none
  fLen : E.fn 14 = some d14
  iLen : E.intr 14 = none
  fRoom : E.fn 38 = some d38
  iRoom : E.intr 38 = none
  fr : ∀ d, CallFrame (dcall E d)
/-- a row of the changes -/
def ChOk (e : DEntry) : Prop := (∃ k, e.key = .int .i64 k) ∧ ∃ a b c, e.val = .agg ⟨[.int .i64 a, .int .i64 b, .bool c]⟩
structure OvAt (s : DS) (o m b : Nat) (es : List DEntry) (clock : Nat) (more : Int) : Prop where
  go : s.get o = some (.cells (.list [.pointer (some ⟨b, 0, none⟩), .map (some m), .int .i64 more]) false)
  wo : s.wr o = true
  gm : s.get m = some (.map es clock)
  wm : s.wr m = true
  ne : o ≠ m
  ok : ∀ e, e ∈ es → ChOk e
theorem ch_find : ∀ {es : List DEntry}, (∀ e, e ∈ es → ChOk e) → ∀ (k : Int) (n : Nat), findE .num (.int .i64 k) es n = some none ∨ ∃ (j : Nat) (e : DEntry), findE .num (.int .i64 k) es n = some (some (j, e)) ∧ e ∈ es
  | [], _, _, _ => .inl rfl
  | e :: es, h, k, n => by
    obtain ⟨⟨k', hk⟩, _⟩ := h e (List.mem_cons_self ..)
    have e1 : keyEq .num (.int .i64 k) e.key = some (decide (k = k')) := by rw [hk]; simp [keyEq]
    unfold findE
    rw [e1]
    by_cases c : k = k'
    · simp only [c, decide_true]
      exact .inr ⟨n, e, rfl, List.mem_cons_self ..⟩
    · simp only [c, decide_false]
      rcases ch_find (es := es) (fun e he => h e (List.mem_cons_of_mem _ he)) k (n + 1) with h1 | ⟨j, e', h1, h2⟩
      · exact .inl h1
      · exact .inr ⟨j, e', h1, List.mem_cons_of_mem _ h2⟩
theorem ch_set : ∀ {es : List DEntry} {j : Nat} {v : Value}, (∀ e, e ∈ es → ChOk e) → (∃ a b c, v = .agg ⟨[.int .i64 a, .int .i64 b, .bool c]⟩) → ∀ e, e ∈ setVal es j v → ChOk e
  | [], _, _, _, _, _, he => by simp [setVal] at he
  | e0 :: es, 0, v, h, hv, e, he => by
    rcases List.mem_cons.1 he with rfl | he
    · exact ⟨(h e0 (List.mem_cons_self ..)).1, hv⟩
    · exact h e (List.mem_cons_of_mem _ he)
  | e0 :: es, j + 1, v, h, hv, e, he => by
    rcases List.mem_cons.1 he with rfl | he
    · exact h _ (List.mem_cons_self ..)
    · exact ch_set (fun e he => h e (List.mem_cons_of_mem _ he)) hv e he
theorem Ends_ret2 {rs : List DRes} {Q : Value × DS → Prop} {t : PT Value} {s : DS} {k k' : Nat} (hk : s.get k = some .dfr) (hw : s.wr k = true) (hk' : s.get k' = some .dfr) (hw' : s.wr k' = true) (hne : k' ≠ k) : Ends rs Q .ret ⟨t, s, [k, k']⟩ = W (dresults t ((s.rid k).rid k') rs) fun vs => Q (tupled vs, (s.rid k).rid k') := by
  have h1 : (s.rid k).get k' = some .dfr := (DS.rid_get_ne hne).trans hk'
  have h2 : (s.rid k).wr k' = true := by rw [DS.rid_wr]; exact hw'
  simp only [Ends, killAll, hk, DS.kill_rid (show (s.get k).isSome = true by rw [hk]; rfl) hw, h1, DS.kill_rid (show ((s.rid k).get k').isSome = true by rw [h1]; rfl) h2, W_some]
theorem W_clrM {call : CallFn} {ρ : Operand → Value} {R : Value × DS → Prop} {s : DS} {x : Operand} : W (dop call ρ s (.bclrM x)) R = W (dwrite ρ s (.bclrM x)) R := W_write rfl
section
variable {E : Env} (hE : Fns E) (hO : OvFns E) {s s' : DS} {d : Nat} {o m b clock : Nat} {es : List DEntry} {more : Int} {kv vv : Value} {L : List Ent} {room : Int} {F : List Nat}
theorem OvAt.keep (c : OvAt s o m b es clock more) (e : Ext F s s') (h1 : o ∉ F) (h2 : m ∉ F) : OvAt s' o m b es clock more :=
  ⟨e.keep c.go h1, e.wrs c.wo, e.keep c.gm h2, e.wrs c.wm, c.ne, c.ok⟩
theorem ov_more (c : OvAt s o m b es clock more) (more' : Int) : OvAt (s.upd o (.cells (.list [.pointer (some ⟨b, 0, none⟩), .map (some m), .int .i64 more']) false)) o m b es clock more' := by
  have go := c.go
  have gm := c.gm
  have ne := c.ne
  have ne' : ¬ m = o := fun h => ne h.symm
  refine ⟨?_, ?_, ?_, ?_, ne, c.ok⟩
  · rw [DS.upd_get_self, go]; rfl
  · rw [DS.upd_wr]; exact c.wo
  · rw [DS.upd_get_ne ne']; exact gm
  · rw [DS.upd_wr]; exact c.wm
theorem ov_map (c : OvAt s o m b es clock more) {es' : List DEntry} {clock' : Nat} (h : ∀ e, e ∈ es' → ChOk e) : OvAt (s.upd m (.map es' clock')) o m b es' clock' more := by
  have go := c.go
  have gm := c.gm
  have ne := c.ne
  refine ⟨?_, ?_, ?_, ?_, ne, h⟩
  · rw [DS.upd_get_ne ne]; exact go
  · rw [DS.upd_wr]; exact c.wo
  · rw [DS.upd_get_self, gm]; rfl
  · rw [DS.upd_wr]; exact c.wm
theorem ch_app (c : OvAt s o m b es clock more) {e0 : DEntry} (h0 : ChOk e0) : ∀ e, e ∈ es ++ [e0] → ChOk e := fun e he => (List.mem_append.1 he).elim (c.ok e) fun h => by
  simp at h; subst h; exact h0
include hE hO
theorem made_ok (go : s.get o = some (.cells (.list [.pointer (some ⟨b, 0, none⟩), .map (some m), .int .i64 more]) false)) : dcall E (d + 1) (.func (.func 33) #[] #[]) [.pointer (some ⟨o, 0, none⟩)] s = some (.bool true, s) := by
  rw [← W_iff, W_enter0 hO.iMade hO.fMade rfl]
  simp (maxSteps := 4000000) only [WC_seq, WC_region, WC_ret, contS_normal, contR_ap, WO_nil, WO_pp, WO_g, gateO_tt, contO_ap, atS_ap, atB_ap, W_some, W_mv, W_pick, W_eq1, W_nilck, W_fadr, W_ld, dpure, eqOne, Ends_ret, ev_tmp, ev_const, putT_some, get_put_eq, get_put_ne, Nat.reduceEqDiff, not_false_eq_true, ofList_get, List.getElem?_cons_zero, Option.getD_some, dresults, tupled, ldV_at, Cells.get, getN, Nat.zero_add, if_true, reduceCtorEq, Bool.not_false, pp, pv, pw, pg, d33, go]
theorem onew_ok (hG : s.Good) : W (dcall E (d + 1) (.func (.func 18) #[] #[]) [.pointer (some ⟨b, 0, none⟩)] s) fun r => ∃ o m, r.1 = .tuple ⟨[.pointer (some ⟨o, 0, none⟩), .int .i64 0]⟩ ∧ OvAt r.2 o m b [] 0 0 ∧ Ext [] s r.2 ∧ s.next ≤ o ∧ s.next ≤ m := by
  refine W_cps fun Q hQ => ?_
  rw [W_enter0 hO.iNew hO.fNew rfl]
  simp (maxSteps := 4000000) (maxDischargeDepth := 8) only [WC_seq, WC_region, WC_cond, WC_skip, WC_ret, contS_normal, contR_ap, WO_nil, WO_pp, condC_false, contO_ap, atG_ap, atB_ap, W_some, W_mv, W_eq1, W_build, W_box, W_mkmap, eqOne, Ends_ret, ev_tmp, ev_const, putT_some, get_put_eq, get_put_ne, not_false_eq_true, ofList_get, List.getElem?_cons_zero, Option.getD_some, dresults, tupled, Nat.zero_add, Nat.reduceAdd, cells_ptr, cells_map, cells_agg, List.length_cons, List.length_nil, Bool.and_self, Bool.and_eq_true, Nat.beq_eq, Nat.ble_eq, Nat.reduceLeDiff, and_self, if_true, if_false, Bool.not_false, Bool.false_eq_true, fillParts, List.take_zero, List.take_succ_cons, List.drop_succ_cons, List.drop_zero, List.nil_append, List.cons_append, pp, pv, nextN, eq_lt, Nat.lt_add_one, Nat.succ_pos, d18, hG]
  refine hQ _ ⟨s.next + 1, s.next, rfl, ⟨?_, (hG _ (Nat.le_succ _)).2, ?_, (hG _ (Nat.le_refl _)).2, by omega, fun _ h => (nomatch h)⟩, Ext.new.trans' Ext.new, by omega, Nat.le_refl _⟩
  · simp (maxSteps := 4000000) (maxDischargeDepth := 8) only [nextN, get_new_at, good_new, hG]
  · simp (maxSteps := 4000000) (maxDischargeDepth := 8) only [nextN, get_new_at, get_new_ne, good_new, Nat.lt_add_one, hG]
theorem olen_ok (go : s.get o = some (.cells (.list [.pointer (some ⟨b, 0, none⟩), .map (some m), .int .i64 more]) false)) (cb : StAt s b kv vv L room) (hob : ∀ k, k ∈ own b kv vv → k ≠ o ∧ k ≠ m) : W (dcall E (d + 2) (.func (.func 14) #[] #[]) [.pointer (some ⟨o, 0, none⟩)] s) fun r => r = (.int .i64 (dwrap .i64 ((L.length : Int) + more)), s) := by
  refine W_cps fun Q hQ => ?_
  rw [W_enter0 hO.iLen hO.fLen rfl]
  have hmade := made_ok hE hO go (d := d)
  simp (maxSteps := 4000000) only [WC_seq, WC_region, WC_cond, WC_skip, contS_normal, contR_ap, WO_nil, WO_pp, WO_pn, WO_hn, condC_false, contO_ap, contN_ap, atS_ap, W_some, W_mv, W_un, W_nilck, W_fadr, W_ld, W_call, dpure, ev_tmp, ev_const, ev_func, putT_some, get_put_eq, get_put_ne, Nat.reduceEqDiff, not_false_eq_true, ofList_get, List.getElem?_cons_zero, Option.getD_some, List.map_cons, List.map_nil, ldV_at, Cells.get, getN, Nat.zero_add, reduceCtorEq, Bool.not_true, List.nil_append, List.cons_append, pp, pv, Nat.add_zero, foot, d14, go, hmade]
  refine W.intro (Len_ok hE (d := d) (cb.mask fun k hk => ?_)) ?_
  · have := (hob k hk).1
    exact ⟨by (simp only [hidden, shielded, noteAt, memN, Bool.or_false, Bool.or_eq_false_iff, Bool.and_eq_false_iff, bleF, bltF, beqF, true_and, and_true, true_or, or_true] <;> omega), by (simp only [hidden, shielded, noteAt, memN, Bool.or_false, Bool.or_eq_false_iff, Bool.and_eq_false_iff, bleF, bltF, beqF, true_and, and_true, true_or, or_true] <;> omega)⟩
  simp (maxSteps := 4000000) only [WC_ret, contS_normal, contR_ap, WO_nil, WO_pn, contN_ap, contHN_ap, atS_ap, W_some, W_mv, W_bin, dbin, dint, Ends_ret, ev_tmp, putT_some, get_put_eq, get_put_ne, Nat.reduceEqDiff, not_false_eq_true, Option.getD_some, dresults, tupled, if_true, List.nil_append, List.cons_append, nextM, unmask_mask, foot]
  exact hQ _ rfl
theorem oget_ok (c : OvAt s o m b es clock more) (cb : StAt s b kv vv L room) (hG : s.Good) (k : Int) : W (dcall E (d + 6) (.func (.func 9) #[] #[]) [.pointer (some ⟨o, 0, none⟩), .int .i64 k] s) fun r => (∃ v is, r.1 = .tuple ⟨[.int .i64 v, .bool is]⟩) ∧ Ext [] s r.2 := by
  have go := c.go
  have gm := c.gm
  have hol := DS.get_lt' go
  have hml := DS.get_lt' gm
  have hmade := made_ok hE hO c.go (d := d + 4)
  have hget := Get_ok hE cb k (d := d)
  refine W_cps fun Q hQ => ?_
  rw [W_enter0 hO.iGet hO.fGet rfl]
  rcases ch_find c.ok k 0 with hf | ⟨j, e, hf, he⟩
  · simp (maxSteps := 4000000) (maxDischargeDepth := 8) only [WC_seq, WC_region, WC_cond, WC_skip, contS_normal, contR_ap, WO_nil, WO_pp, condC_false, contO_ap, atS_ap, atD_ap, W_some, W_mv, W_un, W_nilck, W_fadr, W_ext, W_ld, W_look, W_st, W_alloc, W_call, dpure, dread, ev_tmp, ev_const, ev_func, putT_some, putT_none, get_put_eq, get_put_ne, not_false_eq_true, ofList_get, List.getElem?_cons_zero, List.getElem?_cons_succ, Option.getD_some, List.map_cons, List.map_nil, ldV_at, Cells.get, getN, Nat.zero_add, Nat.reduceAdd, st_wr, cells_agg, List.length_cons, List.length_nil, allOne, oneCellD, Bool.and_self, Bool.and_true, Nat.beq_eq, Nat.ble_eq, Nat.le_refl, if_true, Bool.not_true, DS.wrC, Cells.size, Cells.fillFrom, Cells.set, setN, pp, pv, DS.upd_get_ne, wrN, Nat.add_zero, get_new_at, get_new_ne, good_new, good_at, eq_lt, eq_gt, Nat.reduceLT, Nat.lt_add_one, Nat.succ_pos, d9, go, gm, hmade, hf, isKey, hG, hol, hml]
    have X : ∀ ob, Ext [] s ((s.new (.cells (.list [.int .i64 0, .int .i64 0, .bool false]) false)).upd s.next ob) := fun ob => (Ext.new (F := [])).trans (Ext.upd (F := [s.next]) (.inl (by simp))) (by simp)
    refine W.intro (Get_ok hE (d := d) (cb.keep (X _) (by simp)) k) ?_
    simp (maxSteps := 4000000) only [WC_ret, contS_normal, contR_ap, WO_nil, WO_pp, contO_ap, atS_ap, W_some, W_mv, W_ext, dpure, Ends_ret, ev_tmp, putT_some, get_put_eq, get_put_ne, Nat.reduceEqDiff, not_false_eq_true, Option.getD_some, dresults, tupled, getN]
    exact hQ _ ⟨⟨_, _, rfl⟩, X _⟩
  · obtain ⟨_, a, b', c', hv⟩ := c.ok e he
    simp (maxSteps := 4000000) (maxDischargeDepth := 8) only [WC_seq, WC_region, WC_cond, WC_skip, WC_ret, contS_normal, contS_ret, contR_ap, WO_nil, WO_pp, condC_true, condC_false, contO_ap, atS_ap, atD_ap, W_some, W_mv, W_un, W_nilck, W_fadr, W_ext, W_ld, W_look, W_st, W_alloc, W_call, dpure, dread, Ends_ret, ev_tmp, ev_const, ev_func, putT_some, putT_none, get_put_eq, get_put_ne, not_false_eq_true, ofList_get, List.getElem?_cons_zero, List.getElem?_cons_succ, Option.getD_some, dresults, tupled, List.map_cons, List.map_nil, ldV_at, Cells.get, getN, Nat.zero_add, Nat.reduceAdd, st_wr, cells_agg, List.length_cons, List.length_nil, allOne, oneCellD, Bool.and_self, Bool.and_true, Nat.beq_eq, Nat.ble_eq, Nat.le_refl, if_true, Bool.not_true, DS.wrC, Cells.size, Cells.fillFrom, Cells.set, setN, pp, pv, DS.upd_get_self, Option.map_some, wrN, get_new_at, good_new, good_at, eq_lt, eq_gt, Nat.reduceLT, Nat.lt_add_one, Nat.succ_pos, d9, go, gm, hmade, hf, isKey, hv, hG, hol, hml]
    exact hQ _ ⟨⟨_, _, rfl⟩, (Ext.new (F := [])).trans (Ext.upd (F := [s.next]) (.inl (by simp))) (by simp)⟩
theorem odrop_ok (c : OvAt s o m b es clock more) : W (dcall E (d + 2) (.func (.func 8) #[] #[]) [.pointer (some ⟨o, 0, none⟩)] s) fun r => r.1 = .tuple #[] ∧ OvAt r.2 o m b [] clock 0 ∧ Ext [o, m] s r.2 := by
  have go := c.go
  have gm := c.gm
  have wo := c.wo
  have wm := c.wm
  have ne := c.ne
  have ne' : ¬ m = o := fun h => ne h.symm
  have hmade := made_ok hE hO c.go (d := d)
  refine W_cps fun Q hQ => ?_
  rw [W_enter0 hO.iDrop hO.fDrop rfl]
  simp (maxSteps := 4000000) only [WC_seq, WC_region, WC_cond, contS_normal, contR_ap, WO_nil, WO_pp, condC_true, contO_ap, atS_ap, atD_ap, W_some, W_mv, W_nilck, W_fadr, W_ld, W_st, W_call, dpure, dwrite, Ends_normal, ev_tmp, ev_const, ev_func, putT_some, putT_none, get_put_eq, get_put_ne, not_false_eq_true, ofList_get, List.getElem?_cons_zero, Option.getD_some, dresults, tupled, List.map_cons, List.map_nil, ldV_at, Cells.get, getN, Nat.zero_add, Nat.reduceAdd, st_wr, cells_int, List.length_cons, List.length_nil, allOne, oneCellD, Bool.and_self, Bool.and_true, Nat.beq_eq, Nat.ble_eq, Nat.le_refl, if_true, reduceCtorEq, DS.wrC, Cells.size, Cells.fillFrom, Cells.set, setN, pp, pv, DS.upd_get_ne, DS.upd_wr, Option.isSome_some, DS.set_upd, d8, go, hmade, W_clrM, gm, wm, wo, ne, ne']
  refine hQ _ ⟨rfl, ⟨?_, ?_, ?_, ?_, ne, fun _ h => (nomatch h)⟩, (Ext.upd (.inl (by simp))).trans' (Ext.upd (.inl (by simp)))⟩
  · simp (maxSteps := 4000000) only [not_false_eq_true, DS.upd_get_self, DS.upd_get_ne, Option.map_some, go, ne]
  · simp (maxSteps := 4000000) only [DS.upd_wr, wo]
  · simp (maxSteps := 4000000) only [not_false_eq_true, DS.upd_get_self, DS.upd_get_ne, Option.map_some, gm, ne']
  · simp (maxSteps := 4000000) only [DS.upd_wr, wm]
theorem room_ok (cb : StAt s b kv vv L room) : dcall E (d + 1) (.func (.func 38) #[] #[]) [.pointer (some ⟨b, 0, none⟩)] s = some (.int .i64 room, s) := by
  have gp := cb.gp
  rw [← W_iff, W_enter0 hO.iRoom hO.fRoom rfl]
  simp (maxSteps := 4000000) only [WC_seq, WC_region, WC_cond, WC_skip, WC_ret, contS_normal, contR_ap, WO_nil, WO_pp, condC_false, contO_ap, atS_ap, atB_ap, W_some, W_mv, W_eq1, W_nilck, W_fadr, W_ld, dpure, eqOne, Ends_ret, ev_tmp, ev_const, putT_some, get_put_eq, get_put_ne, not_false_eq_true, ofList_get, List.getElem?_cons_zero, Option.getD_some, dresults, tupled, ldV_at, Cells.get, getN, Nat.zero_add, if_false, reduceCtorEq, Bool.not_false, Bool.false_eq_true, pp, pv, d38, gp]
theorem oput_ok (c : OvAt s o m b es clock more) (cb : StAt s b kv vv L room) (hob : ∀ k, k ∈ own b kv vv → k ≠ o ∧ k ≠ m) (hG : s.Good) (k x : Int) : W (dcall E (d + 7) (.func (.func 12) #[] #[]) [.pointer (some ⟨o, 0, none⟩), .int .i64 k, .int .i64 x] s) fun r => (∃ n, r.1 = .int .i64 n) ∧ (∃ es' clock' more', OvAt r.2 o m b es' clock' more') ∧ Ext [o, m] s r.2 := by
  have hmade := made_ok hE hO c.go (d := d + 5)
  refine W_cps fun Q hQ => ?_
  rw [W_enter0 hO.iPut hO.fPut rfl]
  simp (maxSteps := 4000000) only [WC_seq, WC_region, WC_cond, WC_skip, contS_normal, contR_ap, WO_nil, WO_pp, condC_false, contO_ap, atS_ap, W_some, W_mv, W_un, W_call, dpure, ev_tmp, ev_const, ev_func, putT_some, get_put_eq, get_put_ne, Nat.reduceEqDiff, not_false_eq_true, ofList_get, List.getElem?_cons_zero, List.getElem?_cons_succ, Option.getD_some, List.map_cons, List.map_nil, reduceCtorEq, Bool.not_true, pp, pv, d12, hmade]
  refine W.mono (oget_ok hE hO c cb hG k) ?_
  rintro ⟨v1, s1⟩ ⟨⟨v, is, hv1⟩, X1⟩
  simp only at hv1 X1
  subst hv1
  have c1 := c.keep X1 (by simp) (by simp)
  have cb1 := cb.keep X1 (by simp)
  have hG1 := X1.good hG
  have go := c1.go
  have wo := c1.wo
  have gm := c1.gm
  have wm := c1.wm
  have ne := c1.ne
  have ne' : ¬ m = o := fun h => ne h.symm
  cases is
  · simp (maxSteps := 4000000) only [WC_seq, WC_region, WC_cond, contS_normal, contR_ap, WO_nil, WO_pp, WO_pn, WO_hn, condC_true, contO_ap, contN_ap, atS_ap, W_some, W_mv, W_un, W_nilck, W_fadr, W_ext, W_ld, W_call, dpure, ev_tmp, ev_func, putT_some, get_put_eq, get_put_ne, Nat.reduceEqDiff, not_false_eq_true, ofList_get, List.getElem?_cons_zero, Option.getD_some, List.map_cons, List.map_nil, ldV_at, Cells.get, getN, reduceCtorEq, Bool.not_false, List.nil_append, List.cons_append, Nat.add_zero, foot, go]
    refine W.mono (olen_ok hE hO (d := d + 4) (go := by rw [mask_get (by (simp only [hidden, shielded, noteAt, memN, Bool.or_false, Bool.or_eq_false_iff, Bool.and_eq_false_iff, bleF, bltF, beqF, true_and, and_true, true_or, or_true] <;> omega))]; exact go) (cb1.mask fun k hk => ?_) hob) ?_
    · have := (hob k hk).1
      exact ⟨by (simp only [hidden, shielded, noteAt, memN, Bool.or_false, Bool.or_eq_false_iff, Bool.and_eq_false_iff, bleF, bltF, beqF, true_and, and_true, true_or, or_true] <;> omega), by (simp only [hidden, shielded, noteAt, memN, Bool.or_false, Bool.or_eq_false_iff, Bool.and_eq_false_iff, bleF, bltF, beqF, true_and, and_true, true_or, or_true] <;> omega)⟩
    rintro ⟨v2, s2⟩ h2
    cases h2
    have hroom := room_ok hE hO cb1 (d := d + 5)
    by_cases c2 : room ≤ dwrap .i64 ((L.length : Int) + more)
    · simp (maxSteps := 4000000) only [WC_seq, WC_region, WC_cond, WC_ret, contS_normal, contS_ret, contR_ap, WO_nil, WO_pp, WO_pn, condC_true, contO_ap, contN_ap, contHN_ap, atS_ap, W_some, W_mv, W_bin, W_call, dbin, dint, Ends_ret, ev_tmp, ev_const, ev_func, putT_some, get_put_eq, get_put_ne, Nat.reduceEqDiff, not_false_eq_true, Option.getD_some, dresults, tupled, List.map_cons, List.map_nil, if_true, List.nil_append, List.cons_append, nextM, unmask_mask, decide_true, foot, hroom, c2]
      exact hQ _ ⟨⟨2, rfl⟩, ⟨_, _, _, c1⟩, X1.weaken (by simp)⟩
    · rcases ch_find c1.ok k 0 with hf | ⟨j, e, hf, he⟩
      · simp (maxSteps := 4000000) only [WC_seq, WC_region, WC_cond, WC_skip, WC_ret, contS_normal, contR_ap, WO_nil, WO_pp, WO_pn, condC_false, contO_ap, contN_ap, contHN_ap, atS_ap, atD_ap, atG_ap, W_some, W_mv, W_bin, W_nilck, W_build, W_fadr, W_ld, W_st, W_mupd, W_call, dpure, dbin, dint, dwrite, Ends_ret, ev_tmp, ev_const, ev_func, putT_some, putT_none, get_put_eq, get_put_ne, Nat.reduceEqDiff, not_false_eq_true, ofList_get, List.getElem?_cons_zero, List.getElem?_cons_succ, Option.getD_some, dresults, tupled, List.map_cons, List.map_nil, ldV_at, Cells.get, getN, Nat.zero_add, Nat.reduceAdd, st_wr, cells_int, List.length_cons, List.length_nil, allOne, oneCellD, Bool.and_self, Bool.and_true, Bool.and_eq_true, Nat.beq_eq, Nat.ble_eq, Nat.reduceLeDiff, Nat.le_refl, and_self, if_true, reduceCtorEq, DS.wrC, Cells.size, Cells.fillFrom, Cells.set, setN, fillParts, List.take_zero, List.take_succ_cons, List.drop_succ_cons, List.drop_zero, List.nil_append, List.cons_append, DS.upd_get_self, DS.upd_get_ne, DS.upd_wr, Option.map_some, Option.isSome_some, DS.set_upd, nextM, unmask_mask, decide_false, foot, hroom, c2, go, wo, ne, ne', gm, wm, isKey, hf]
        exact hQ _ ⟨⟨0, rfl⟩, ⟨_, _, _, ov_map (ov_more c1 _) (ch_app c1 ⟨⟨k, rfl⟩, k, x, false, rfl⟩)⟩, (X1.weaken (by simp)).trans' ((Ext.upd (.inl (by simp))).trans' (Ext.upd (.inl (by simp))))⟩
      · simp (maxSteps := 4000000) only [WC_seq, WC_region, WC_cond, WC_skip, WC_ret, contS_normal, contR_ap, WO_nil, WO_pp, WO_pn, condC_false, contO_ap, contN_ap, contHN_ap, atS_ap, atD_ap, atG_ap, W_some, W_mv, W_bin, W_nilck, W_build, W_fadr, W_ld, W_st, W_mupd, W_call, dpure, dbin, dint, dwrite, Ends_ret, ev_tmp, ev_const, ev_func, putT_some, putT_none, get_put_eq, get_put_ne, Nat.reduceEqDiff, not_false_eq_true, ofList_get, List.getElem?_cons_zero, List.getElem?_cons_succ, Option.getD_some, dresults, tupled, List.map_cons, List.map_nil, ldV_at, Cells.get, getN, Nat.zero_add, Nat.reduceAdd, st_wr, cells_int, List.length_cons, List.length_nil, allOne, oneCellD, Bool.and_self, Bool.and_true, Bool.and_eq_true, Nat.beq_eq, Nat.ble_eq, Nat.reduceLeDiff, Nat.le_refl, and_self, if_true, reduceCtorEq, DS.wrC, Cells.size, Cells.fillFrom, Cells.set, setN, fillParts, List.take_zero, List.take_succ_cons, List.drop_succ_cons, List.drop_zero, List.nil_append, List.cons_append, DS.upd_get_self, DS.upd_get_ne, DS.upd_wr, Option.map_some, Option.isSome_some, DS.set_upd, nextM, unmask_mask, decide_false, foot, hroom, c2, go, wo, ne, ne', gm, wm, isKey, hf]
        exact hQ _ ⟨⟨0, rfl⟩, ⟨_, _, _, ov_map (ov_more c1 _) (ch_set c1.ok ⟨k, x, false, rfl⟩)⟩, (X1.weaken (by simp)).trans' ((Ext.upd (.inl (by simp))).trans' (Ext.upd (.inl (by simp))))⟩
  · rcases ch_find c1.ok k 0 with hf | ⟨j, e, hf, he⟩
    · simp (maxSteps := 4000000) only [WC_seq, WC_region, WC_cond, WC_skip, WC_ret, contS_normal, contR_ap, WO_nil, WO_pp, condC_false, contO_ap, atS_ap, atG_ap, W_some, W_mv, W_un, W_nilck, W_build, W_fadr, W_ext, W_ld, W_mupd, dpure, dwrite, Ends_ret, ev_tmp, ev_const, putT_some, putT_none, get_put_eq, get_put_ne, Nat.reduceEqDiff, not_false_eq_true, ofList_get, List.getElem?_cons_zero, List.getElem?_cons_succ, Option.getD_some, dresults, tupled, ldV_at, Cells.get, getN, Nat.zero_add, Nat.reduceAdd, cells_int, List.length_cons, List.length_nil, Bool.and_self, Bool.and_eq_true, Nat.beq_eq, Nat.ble_eq, Nat.reduceLeDiff, and_self, if_true, reduceCtorEq, Bool.not_true, fillParts, List.take_zero, List.take_succ_cons, List.drop_succ_cons, List.drop_zero, List.nil_append, List.cons_append, Option.isSome_some, DS.set_upd, go, wo, ne, ne', gm, wm, isKey, hf]
      exact hQ _ ⟨⟨0, rfl⟩, ⟨_, _, _, ov_map c1 (ch_app c1 ⟨⟨k, rfl⟩, k, x, false, rfl⟩)⟩, (X1.weaken (by simp)).trans' (Ext.upd (.inl (by simp)))⟩
    · simp (maxSteps := 4000000) only [WC_seq, WC_region, WC_cond, WC_skip, WC_ret, contS_normal, contR_ap, WO_nil, WO_pp, condC_false, contO_ap, atS_ap, atG_ap, W_some, W_mv, W_un, W_nilck, W_build, W_fadr, W_ext, W_ld, W_mupd, dpure, dwrite, Ends_ret, ev_tmp, ev_const, putT_some, putT_none, get_put_eq, get_put_ne, Nat.reduceEqDiff, not_false_eq_true, ofList_get, List.getElem?_cons_zero, List.getElem?_cons_succ, Option.getD_some, dresults, tupled, ldV_at, Cells.get, getN, Nat.zero_add, Nat.reduceAdd, cells_int, List.length_cons, List.length_nil, Bool.and_self, Bool.and_eq_true, Nat.beq_eq, Nat.ble_eq, Nat.reduceLeDiff, and_self, if_true, reduceCtorEq, Bool.not_true, fillParts, List.take_zero, List.take_succ_cons, List.drop_succ_cons, List.drop_zero, List.nil_append, List.cons_append, Option.isSome_some, DS.set_upd, go, wo, ne, ne', gm, wm, isKey, hf]
      exact hQ _ ⟨⟨0, rfl⟩, ⟨_, _, _, ov_map c1 (ch_set c1.ok ⟨k, x, false, rfl⟩)⟩, (X1.weaken (by simp)).trans' (Ext.upd (.inl (by simp)))⟩
omit hE hO in
theorem ch_drop : ∀ {es : List DEntry} {j : Nat}, (∀ e, e ∈ es → ChOk e) → ∀ e, e ∈ dropE es j → ChOk e
  | [], _, _, _, he => by simp [dropE] at he
  | e0 :: es, 0, h, e, he => h e (List.mem_cons_of_mem _ he)
  | e0 :: es, j + 1, h, e, he => by
    rcases List.mem_cons.1 he with rfl | he
    · exact h _ (List.mem_cons_self ..)
    · exact ch_drop (fun e he => h e (List.mem_cons_of_mem _ he)) e he
theorem odel_ok (c : OvAt s o m b es clock more) (cb : StAt s b kv vv L room) (hob : ∀ k, k ∈ own b kv vv → k ≠ o ∧ k ≠ m) (hG : s.Good) (k : Int) : W (dcall E (d + 7) (.func (.func 13) #[] #[]) [.pointer (some ⟨o, 0, none⟩), .int .i64 k] s) fun r => (∃ n, r.1 = .bool n) ∧ (∃ es' clock' more', OvAt r.2 o m b es' clock' more') ∧ Ext [o, m] s r.2 := by
  refine W_cps fun Q hQ => ?_
  rw [W_enter0 hO.iDel hO.fDel rfl]
  simp (maxSteps := 4000000) only [WC_seq, WC_region, contS_normal, contR_ap, WO_nil, WO_pp, contO_ap, W_mv, W_call, ev_tmp, ev_const, ev_func, putT_some, get_put_eq, get_put_ne, Nat.reduceEqDiff, not_false_eq_true, ofList_get, List.getElem?_cons_zero, List.getElem?_cons_succ, Option.getD_some, List.map_cons, List.map_nil, reduceCtorEq, pp, pv, d13]
  refine W.mono (oget_ok hE hO c cb hG k) ?_
  rintro ⟨v1, s1⟩ ⟨⟨v, is, hv1⟩, X1⟩
  simp only at hv1 X1
  subst hv1
  have c1 := c.keep X1 (by simp) (by simp)
  have cb1 := cb.keep X1 (by simp)
  have hG1 := X1.good hG
  have go := c1.go
  have wo := c1.wo
  have gm := c1.gm
  have wm := c1.wm
  have ne := c1.ne
  have ne' : ¬ m = o := fun h => ne h.symm
  cases is
  · simp (maxSteps := 4000000) only [WC_seq, WC_region, WC_cond, WC_ret, contS_normal, contS_ret, contR_ap, WO_nil, WO_pp, condC_true, contO_ap, atS_ap, W_some, W_mv, W_un, W_ext, dpure, Ends_ret, ev_tmp, ev_const, putT_some, get_put_eq, get_put_ne, Nat.reduceEqDiff, not_false_eq_true, Option.getD_some, dresults, tupled, getN, Bool.not_false]
    exact hQ _ ⟨⟨_, rfl⟩, ⟨_, _, _, c1⟩, X1.weaken (by simp)⟩
  · simp (maxSteps := 4000000) only [WC_seq, WC_region, WC_cond, WC_skip, contS_normal, contR_ap, WO_nil, WO_pp, condC_false, contO_ap, atS_ap, atD_ap, W_some, W_mv, W_bin, W_un, W_nilck, W_fadr, W_ext, W_ld, W_st, W_call, dpure, dbin, dint, ev_tmp, ev_const, ev_func, putT_some, putT_none, get_put_eq, get_put_ne, Nat.reduceEqDiff, not_false_eq_true, ofList_get, List.getElem?_cons_zero, List.getElem?_cons_succ, Option.getD_some, List.map_cons, List.map_nil, ldV_at, Cells.get, getN, Nat.zero_add, Nat.reduceAdd, st_wr, cells_int, List.length_cons, List.length_nil, allOne, oneCellD, Bool.and_self, Bool.and_true, Nat.beq_eq, Nat.ble_eq, Nat.le_refl, if_true, reduceCtorEq, Bool.not_true, DS.wrC, Cells.size, Cells.fillFrom, Cells.set, setN, DS.upd_get_self, Option.map_some, Nat.add_zero, go, wo]
    have X2 : Ext [o] s1 (s1.upd o (.cells (.list [.pointer (some ⟨b, 0, none⟩), .map (some m), .int .i64 (dwrap .i64 (more - 1))]) false)) := Ext.upd (.inl (by simp))
    have c2 := ov_more c1 (dwrap .i64 (more - 1))
    have cb2 := cb1.keep X2 (fun k hk => by simp; exact (hob k hk).1)
    have hget := Get_ok hE cb2 k (d := d + 1)
    have hwk : ∀ k, k ∈ [o] → k ∈ [o, m] ∨ s1.next ≤ k := by simp
    cases hat : isAt k L with
    | true =>
      rw [hat] at hget
      rcases ch_find c1.ok k 0 with hf | ⟨j, e, hf, he⟩
      · simp (maxSteps := 4000000) only [WC_seq, WC_region, WC_cond, WC_ret, contS_normal, contR_ap, WO_nil, WO_pp, condC_true, contO_ap, atS_ap, atG_ap, W_some, W_mv, W_nilck, W_build, W_fadr, W_ext, W_ld, W_mupd, dpure, dwrite, Ends_ret, ev_tmp, ev_const, putT_some, putT_none, get_put_eq, get_put_ne, Nat.reduceEqDiff, not_false_eq_true, ofList_get, List.getElem?_cons_zero, List.getElem?_cons_succ, Option.getD_some, dresults, tupled, ldV_at, Cells.get, getN, Nat.zero_add, Nat.reduceAdd, cells_int, cells_bool, List.length_cons, List.length_nil, Bool.and_self, Bool.and_eq_true, Nat.beq_eq, Nat.ble_eq, Nat.reduceLeDiff, Nat.le_refl, and_self, if_true, reduceCtorEq, fillParts, List.take_zero, List.take_succ_cons, List.drop_succ_cons, List.drop_zero, List.nil_append, List.cons_append, List.drop_nil, List.append_nil, DS.upd_get_self, DS.upd_get_ne, DS.upd_wr, Option.map_some, Option.isSome_some, DS.set_upd, hget, go, wo, ne, ne', gm, wm, isKey, hf]
        exact hQ _ ⟨⟨_, rfl⟩, ⟨_, _, _, ov_map c2 (ch_app c2 ⟨⟨k, rfl⟩, k, 0, true, rfl⟩)⟩, (X1.weaken (by simp)).trans' ((Ext.upd (.inl (by simp))).trans' (Ext.upd (.inl (by simp))))⟩
      · simp (maxSteps := 4000000) only [WC_seq, WC_region, WC_cond, WC_ret, contS_normal, contR_ap, WO_nil, WO_pp, condC_true, contO_ap, atS_ap, atG_ap, W_some, W_mv, W_nilck, W_build, W_fadr, W_ext, W_ld, W_mupd, dpure, dwrite, Ends_ret, ev_tmp, ev_const, putT_some, putT_none, get_put_eq, get_put_ne, Nat.reduceEqDiff, not_false_eq_true, ofList_get, List.getElem?_cons_zero, List.getElem?_cons_succ, Option.getD_some, dresults, tupled, ldV_at, Cells.get, getN, Nat.zero_add, Nat.reduceAdd, cells_int, cells_bool, List.length_cons, List.length_nil, Bool.and_self, Bool.and_eq_true, Nat.beq_eq, Nat.ble_eq, Nat.reduceLeDiff, Nat.le_refl, and_self, if_true, reduceCtorEq, fillParts, List.take_zero, List.take_succ_cons, List.drop_succ_cons, List.drop_zero, List.nil_append, List.cons_append, List.drop_nil, List.append_nil, DS.upd_get_self, DS.upd_get_ne, DS.upd_wr, Option.map_some, Option.isSome_some, DS.set_upd, hget, go, wo, ne, ne', gm, wm, isKey, hf]
        exact hQ _ ⟨⟨_, rfl⟩, ⟨_, _, _, ov_map c2 (ch_set c1.ok ⟨k, 0, true, rfl⟩)⟩, (X1.weaken (by simp)).trans' ((Ext.upd (.inl (by simp))).trans' (Ext.upd (.inl (by simp))))⟩
    | false =>
      rw [hat] at hget
      rcases ch_find c1.ok k 0 with hf | ⟨j, e, hf, he⟩
      · simp (maxSteps := 4000000) only [WC_seq, WC_region, WC_cond, WC_ret, contS_normal, contR_ap, WO_nil, WO_pp, condC_false, contO_ap, atS_ap, W_some, W_mv, W_nilck, W_fadr, W_ext, W_ld, W_bdel, dpure, dwrite, Ends_ret, ev_tmp, ev_const, putT_some, putT_none, get_put_eq, get_put_ne, Nat.reduceEqDiff, not_false_eq_true, ofList_get, List.getElem?_cons_zero, List.getElem?_cons_succ, Option.getD_some, dresults, tupled, ldV_at, Cells.get, getN, Nat.zero_add, if_true, reduceCtorEq, DS.upd_get_self, DS.upd_get_ne, DS.upd_wr, Option.map_some, Option.isSome_some, DS.set_upd, hget, go, wo, ne, ne', gm, wm, isKey, hf]
        exact hQ _ ⟨⟨_, rfl⟩, ⟨_, _, _, ov_map c2 c1.ok⟩, (X1.weaken (by simp)).trans' ((Ext.upd (.inl (by simp))).trans' (Ext.upd (.inl (by simp))))⟩
      · simp (maxSteps := 4000000) only [WC_seq, WC_region, WC_cond, WC_ret, contS_normal, contR_ap, WO_nil, WO_pp, condC_false, contO_ap, atS_ap, W_some, W_mv, W_nilck, W_fadr, W_ext, W_ld, W_bdel, dpure, dwrite, Ends_ret, ev_tmp, ev_const, putT_some, putT_none, get_put_eq, get_put_ne, Nat.reduceEqDiff, not_false_eq_true, ofList_get, List.getElem?_cons_zero, List.getElem?_cons_succ, Option.getD_some, dresults, tupled, ldV_at, Cells.get, getN, Nat.zero_add, if_true, reduceCtorEq, DS.upd_get_self, DS.upd_get_ne, DS.upd_wr, Option.map_some, Option.isSome_some, DS.set_upd, hget, go, wo, ne, ne', gm, wm, isKey, hf]
        exact hQ _ ⟨⟨_, rfl⟩, ⟨_, _, _, ov_map c2 (ch_drop c1.ok)⟩, (X1.weaken (by simp)).trans' ((Ext.upd (.inl (by simp))).trans' (Ext.upd (.inl (by simp))))⟩
structure ChFns (E : Env) : Prop where
  fChg : E.fn 36 = some d36
  iChg : E.intr 36 = none
  fChg1 : E.fn 54 = some d54
  iChg1 : E.intr 54 = none
  iKeys : E.intr 56 = some fun all s => keysD all 69 s
  iSorted : E.intr 55 = some fun all s => sortedD 69 all s
  fCommit : E.fn 15 = some d15
  iCommit : E.intr 15 = none
variable (hH : ChFns E)
include hH
theorem ochg_empty {c y1 : Nat} (cO : OvAt s o m b [] clock more) (gc : s.get c = some (.cells (.list [.pointer (some ⟨o, 0, none⟩)]) false)) (hG : s.Good) :
    W (dcall E (d + 2) (.func (.func 54) #[] #[.pointer (some ⟨c, 0, none⟩)]) [.func (.yield y1) #[] #[]] s) fun r => r.1 = .tuple #[] ∧ Ext [] s r.2 := by
  have go := cO.go
  have gm := cO.gm
  have hol := DS.get_lt' go
  have hml := DS.get_lt' gm
  have hcl := DS.get_lt' gc
  refine W_cps fun Q hQ => ?_
  rw [W_enter hH.iChg1 hH.fChg1 rfl]
  have hmade := made_ok hE hO cO.go (d := d)
  have hlf := hE.lf
  have hk : ∀ dd, dcall E (dd + 1) (.func (.func 56) #[] #[]) [.map (some m)] s = some (.func (.func 69) #[] #[.chan (some s.next)], s.new (.cells (.list [.map (some m)]) false)) := fun dd => intr_run hH.iKeys rfl
  have hs : ∀ dd, dcall E (dd + 1) (.func (.func 55) #[] #[]) [.func (.func 69) #[] #[.chan (some s.next)]] (s.new (.cells (.list [.map (some m)]) false)) = some (.slice none 0 0, s.new (.cells (.list [.map (some m)]) false)) := fun dd => by
    refine intr_run hH.iSorted ?_
    have g1 : (s.new (.cells (.list [.map (some m)]) false)).get s.next = some (.cells (.list [.map (some m)]) false) := DS.new_get_self hG
    have g2 : (s.new (.cells (.list [.map (some m)]) false)).get m = some (.map [] clock) := (DS.new_get_lt hml).trans gm
    show sortedD 69 [.func (.func 69) ⟨[]⟩ ⟨[.chan (some s.next)]⟩] _ = _
    unfold sortedD
    simp only [Nat.beq_refl, if_true, g1, Cells.get, getN, g2, keysOf]
    rfl
  simp (maxSteps := 4000000) only [WC_seq, WC_region, WC_cond, WC_block, WC_skip, contS_normal, contR_ap, WO_nil, WO_pp, condC_false, contO_ap, atS_ap, W_some, W_mv, W_un, W_nilck, W_fadr, W_blenL, W_ld, W_call, dpure, ev_tmp, ev_const, ev_func, putT_some, get_put_eq, get_put_ne, Nat.reduceEqDiff, not_false_eq_true, ofList_get, List.getElem?_cons_zero, List.getElem?_cons_succ, Option.getD_some, List.map_cons, List.map_nil, ldV_at, Cells.get, getN, Nat.zero_add, Bool.not_true, List.nil_append, List.cons_append, pp, pv, d54, gc, go, hmade, hk, hs]
  refine WC_loop (fun _ y => y = _) 0 (by omega) rfl ?_
  rintro n y hn rfl
  have e0 : ¬ (0 : Int) < ((0 : Nat) : Int) := by decide
  simp (maxSteps := 4000000) only [WC_seq, WC_region, WC_cond, WC_exit, contS_normal, contS_exit, contB_exit, contR_ap, contL_exit, WO_nil, WO_pp, condC_false, contO_ap, atS_ap, W_some, W_bin, dbin, dint, Ends_normal, ev_tmp, putT_some, get_put_eq, get_put_ne, Nat.reduceEqDiff, not_false_eq_true, Option.getD_some, dresults, tupled, if_true, decide_false, e0]
  exact hQ _ ⟨rfl, Ext.new⟩
theorem ocommit_empty (cO : OvAt s o m b [] clock more) (hG : s.Good) :
    W (dcall E (d + 4) (.func (.func 15) #[] #[]) [.pointer (some ⟨o, 0, none⟩)] s) fun r => r.1 = .int .i64 0 ∧ OvAt r.2 o m b [] clock 0 ∧ Ext [o, m] s r.2 := by
  have go := cO.go
  have hol := DS.get_lt' go
  have hml := DS.get_lt' cO.gm
  refine W_cps fun Q hQ => ?_
  rw [W_enter0 hH.iCommit hH.fCommit rfl]
  have hnew : ∀ ob, OvAt (s.new ob) o m b [] clock more := fun ob => cO.keep (F := []) Ext.new (by simp) (by simp)
  have hmade := fun ob => made_ok hE hO (hnew ob).go (d := d + 2)
  have hchg : ∀ dd (S : DS), dcall E (dd + 1) (.func (.func 36) #[] #[]) [.pointer (some ⟨o, 0, none⟩)] S = some (.func (.func 54) #[] #[.pointer (some ⟨S.next, 0, none⟩)], S.new (.cells (.list [.pointer (some ⟨o, 0, none⟩)]) false)) := fun dd S => by
    rw [← W_iff, W_enter0 hH.iChg hH.fChg rfl]
    simp (maxSteps := 4000000) only [WC_seq, WC_region, WC_ret, contS_normal, contR_ap, WO_nil, WO_pp, contO_ap, W_some, W_mv, W_mkf, W_box, Ends_ret, ev_tmp, ev_const, putT_some, get_put_eq, get_put_ne, Nat.reduceEqDiff, not_false_eq_true, ofList_get, List.getElem?_cons_zero, Option.getD_some, dresults, tupled, List.map_cons, List.map_nil, cells_ptr, pp, pv, d36]
  simp (maxSteps := 4000000) (maxDischargeDepth := 8) only [WC_seq, WC_region, WC_cond, WC_block, WC_skip, contS_normal, contR_ap, WO_nil, WO_pp, condC_false, contO_ap, atS_ap, W_some, W_mv, W_un, W_ld, W_box, W_call, dpure, ev_tmp, ev_const, ev_func, putT_some, get_put_eq, get_put_ne, not_false_eq_true, ofList_get, List.getElem?_cons_zero, Option.getD_some, List.map_cons, List.map_nil, ldV_at, Cells.get, getN, cells_ptr, Bool.not_true, pp, nextN, get_new_at, eq_lt, Nat.reduceLT, Nat.lt_add_one, d15, hG, hmade, hchg]
  obtain ⟨S1, hS1⟩ : ∃ S1 : DS, S1 = (s.new (.cells (.list [.pointer (some ⟨o, 0, none⟩)]) false)).new (.cells (.list [.pointer (some ⟨o, 0, none⟩)]) false) := ⟨_, rfl⟩
  rw [← hS1]
  have X1 : Ext [] s S1 := by rw [hS1]; exact Ext.new.trans' Ext.new
  have hG1 := X1.good hG
  have n1 : S1.next = s.next + 2 := by rw [hS1]; rfl
  have ga : S1.get s.next = some (.cells (.list [.pointer (some ⟨o, 0, none⟩)]) false) := by rw [hS1]; simp (maxSteps := 4000000) (maxDischargeDepth := 8) only [nextN, get_new_at, get_new_ne, good_new, Nat.lt_add_one, hG]
  have gb : S1.get (s.next + 1) = some (.cells (.list [.pointer (some ⟨o, 0, none⟩)]) false) := by rw [hS1]; simp (maxSteps := 4000000) (maxDischargeDepth := 8) only [nextN, get_new_at, good_new, hG]
  clear hS1
  refine WC_rf (by simp (maxSteps := 4000000) only [ev_tmp, get_put_eq, Option.getD_some]; rfl) ?_
  generalize hO1 : loopOb _ _ _ _ = O1
  have XU : Ext [] S1 ((S1.new .dfr).new O1) := Ext.new.trans' Ext.new
  have hGU := XU.good hG1
  have gy : ((S1.new .dfr).new O1).get (S1.next + 1) = some O1 := by simp (maxSteps := 4000000) (maxDischargeDepth := 8) only [nextN, get_new_at, good_new, hG1]
  have gd : ((S1.new .dfr).new O1).get S1.next = some .dfr := by simp (maxSteps := 4000000) (maxDischargeDepth := 8) only [nextN, get_new_at, get_new_ne, good_new, Nat.lt_add_one, hG1]
  refine W.mono (ochg_empty hE hO hH (d := d + 1) ((cO.keep X1 (by simp) (by simp)).keep XU (by simp) (by simp)) (XU.keep gb (by simp)) hGU) ?_
  rintro ⟨v2, s2⟩ ⟨_, X2⟩
  simp only at X2
  have X02 : Ext [] s s2 := (X1.trans' XU).trans' X2
  have hG2 := X2.good hGU
  have gy2 := X2.keep gy (by simp)
  have gd2 := X2.keep gd (by simp)
  have n2 : S1.next + 2 ≤ s2.next := X2.le
  have wr2 : ∀ k, s.next ≤ k → s2.wr k = true := fun k hk => X02.wrs (hG k hk).2
  rw [← hO1] at gy2
  refine contF_ap gy2 (.inl rfl) (wr2 _ (by omega)) ?_
  have ga2 := X2.keep (XU.keep ga (by simp)) (by simp)
  have hso : ¬ s.next = S1.next + 1 := by omega
  simp (maxSteps := 4000000) only [WC_seq, WC_region, WC_block, contS_normal, contB_normal, contR_ap, WO_nil, WO_pp, contO_ap, atS_ap, W_some, W_ld, W_call, ev_tmp, ev_func, putT_some, get_put_eq, get_put_ne, Nat.reduceEqDiff, not_false_eq_true, Option.getD_some, List.map_cons, List.map_nil, ldV_at, Cells.get, getN, DS.upd_get_ne, DS.upd_next, hso, ga2, hchg]
  generalize hOE : DObj.loop .exhausted .normal _ _ _ _ = OE
  obtain ⟨S3, hS3⟩ : ∃ S3 : DS, S3 = (s2.upd (S1.next + 1) OE).new (.cells (.list [.pointer (some ⟨o, 0, none⟩)]) false) := ⟨_, rfl⟩
  rw [← hS3]
  have X3 : Ext [S1.next + 1] s2 S3 := by rw [hS3]; exact (Ext.upd (.inl (by simp))).trans' Ext.new
  have hG3 := X3.good hG2
  have n3 : S3.next = s2.next + 1 := by rw [hS3]; simp (maxSteps := 4000000) (maxDischargeDepth := 8) only [DS.upd_next, nextN]
  have hGu : (s2.upd (S1.next + 1) OE).Good := by rw [DS.upd_good]; exact hG2
  have gc3 : S3.get s2.next = some (.cells (.list [.pointer (some ⟨o, 0, none⟩)]) false) := by rw [hS3]; exact get_new_at hGu (by rw [DS.upd_next])
  have gd3 := X3.keep gd2 (by simp)
  have ga3 := X3.keep ga2 (by simp; omega)
  have X03 : Ext [] s S3 := X02.trans X3 (by simp; omega)
  clear hS3
  refine WC_rf (by simp (maxSteps := 4000000) only [ev_tmp, get_put_eq, Option.getD_some]; rfl) ?_
  generalize hO4 : loopOb _ _ _ _ = O4
  have XV : Ext [] S3 ((S3.new .dfr).new O4) := Ext.new.trans' Ext.new
  have hGV := XV.good hG3
  have gz : ((S3.new .dfr).new O4).get (S3.next + 1) = some O4 := by simp (maxSteps := 4000000) (maxDischargeDepth := 8) only [nextN, get_new_at, good_new, hG3]
  have ge : ((S3.new .dfr).new O4).get S3.next = some .dfr := by simp (maxSteps := 4000000) (maxDischargeDepth := 8) only [nextN, get_new_at, get_new_ne, good_new, Nat.lt_add_one, hG3]
  refine W.mono (ochg_empty hE hO hH (d := d + 1) ((cO.keep X03 (by simp) (by simp)).keep XV (by simp) (by simp)) (XV.keep gc3 (by simp)) hGV) ?_
  rintro ⟨v5, s5⟩ ⟨_, X5⟩
  simp only at X5
  have X05 : Ext [] s s5 := (X03.trans' XV).trans' X5
  have hG5 := X5.good hGV
  have gz5 := X5.keep gz (by simp)
  have ge5 := X5.keep ge (by simp)
  have gd5 := X5.keep (XV.keep gd3 (by simp)) (by simp)
  have ga5 := X5.keep (XV.keep ga3 (by simp)) (by simp)
  have wr5 : ∀ k, s.next ≤ k → s5.wr k = true := fun k hk => X05.wrs (hG k hk).2
  rw [← hO4] at gz5
  refine contF_ap gz5 (.inl rfl) (wr5 _ (by omega)) ?_
  have hso5 : ¬ s.next = S3.next + 1 := by omega
  generalize hOF : DObj.loop .exhausted .normal _ _ _ _ = OF
  have X6 : Ext [S3.next + 1] s5 (s5.upd (S3.next + 1) OF) := Ext.upd (.inl (by simp))
  have X06 : Ext [] s (s5.upd (S3.next + 1) OF) := X05.trans X6 (by simp; omega)
  have c6 := cO.keep X06 (by simp) (by simp)
  simp (maxSteps := 4000000) only [WC_seq, WC_region, contS_normal, contB_normal, WO_pp, contO_ap, atS_ap, W_some, W_ld, W_call, ev_tmp, ev_func, putT_some, get_put_eq, get_put_ne, Nat.reduceEqDiff, not_false_eq_true, Option.getD_some, List.map_cons, List.map_nil, ldV_at, Cells.get, getN, DS.upd_get_ne, hso5, ga5]
  refine W.mono (odrop_ok hE hO (d := d + 1) c6) ?_
  rintro ⟨v7, s7⟩ ⟨hv7, c7, X7⟩
  simp only at hv7 c7 X7
  subst hv7
  have hno : ∀ k, s.next ≤ k → k ∉ [o, m] := fun k hk => by simp; omega
  have gd7 := X7.keep (X6.keep gd5 (by simp; omega)) (hno _ (by omega))
  have ge7 := X7.keep (X6.keep ge5 (by simp)) (hno _ (by omega))
  have wr7 : ∀ k, s.next ≤ k → s7.wr k = true := fun k hk => X7.wrs (X6.wrs (wr5 k hk))
  simp (maxSteps := 4000000) only [WC_seq, WC_region, WC_ret, contS_normal, contR_ap, WO_nil, WO_pp, contO_ap, W_mv, ev_const, putT_some]
  rw [Ends_ret2 ge7 (wr7 _ (by omega)) gd7 (wr7 _ (by omega)) (by omega)]
  simp (maxSteps := 4000000) only [W_some, get_put_eq, Option.getD_some, dresults, tupled]
  have XR : Ext [S3.next, S1.next] s7 ((s7.rid S3.next).rid S1.next) := (Ext.rid (.inl (by simp))).trans' (Ext.rid (.inl (by simp)))
  refine hQ _ ⟨rfl, c7.keep XR (by simp; omega) (by simp; omega), ?_⟩
  exact ((X06.weaken (by simp)).trans' X7).trans XR (by simp; omega)
end
end Go.Dx.OvA
/- OverlayTwo, at the evaluator's level (made by tools/gen.py out of two.t). -/
set_option linter.unusedVariables false
set_option linter.unusedSimpArgs false
set_option linter.unusedSectionVars false
set_option maxRecDepth 100000
set_option maxHeartbeats 4000000
namespace Go.Dx.OvA
open Go Go.Dx Go.Dx.Search Go.Dx.St Go.Proofs.Ytlpjlananbjgcaa
theorem puR_len (room : Int) (hroom : 0 ≤ room) : ∀ (rows : List (List Value)) , ((puR room rows).length : Int) ≤ room := by
  intro rows
  unfold puR
  suffices h : ∀ (rows : List (List Value)) (L : List Ent), (L.length : Int) ≤ room → ((rows.foldl (fun L x => putR (rowK x) (rowV x) L room) L).length : Int) ≤ room from h rows [] (by simpa using hroom)
  intro rows
  induction rows with
  | nil => exact fun L h => h
  | cons x rows ih =>
    intro L h
    refine ih _ ?_
    show ((putR (rowK x) (rowV x) L room).length : Int) ≤ room
    unfold putR
    split
    · rename_i hi
      rw [St.put_len, if_pos hi]; exact h
    · split
      · exact h
      · rename_i hi hf
        rw [St.put_len, if_neg hi]; omega
theorem elems_self : ∀ (n f : Nat) (l : List Value), (∀ x, x ∈ l → ∃ a, x = .int .u8 a) → l.length = n → n < f → eqElemsF f (.one .int) 1 l l n = some true
  | 0, f + 1, _, _, _, _ => rfl
  | n + 1, f + 1, [], _, h, _ => by simp at h
  | n + 1, f + 1, x :: l, h, hl, hf => by
    obtain ⟨a, rfl⟩ := h x (List.mem_cons_self ..)
    unfold eqElemsF
    have e1 : eqOne .int (.int .u8 a) (.int .u8 a) = some true := by simp [eqOne]
    simp only [e1]
    exact elems_self n f l (fun y hy => h y (List.mem_cons_of_mem _ hy)) (by simpa using hl) (by omega)
theorem arr_self {l : List Value} (h : U .u8 32 l) : eqValF 5000 (.arr 32 1 (.one .int)) (.agg ⟨l⟩) (.agg ⟨l⟩) = some true := by
  show eqElemsF 4999 (.one .int) 1 l l 32 = some true
  refine elems_self 32 4999 l (fun x hx => ?_) h.1 (by omega)
  obtain ⟨i, hi, e⟩ := List.getElem_of_mem hx
  have := h.2 i (by rw [← h.1]; exact hi)
  rw [getN_eq, List.getElem?_eq_getElem hi] at this
  exact ⟨_, by rw [← e]; exact Option.some.inj this⟩
structure TwoI (s0 : DS) (o m b f p : Nat) (v1 : Value) (l : List (List Value)) (n : Nat) (x : St) : Prop where
  ex : ∃ (i : Nat) (es : List DEntry) (clock : Nat) (more : Int), n = 101 - i ∧ i ≤ 100 ∧ i ≤ l.length ∧ x.defers = [] ∧
    (x.t.get 1 = some v1 ∧ x.t.get 5 = some (.pointer (some ⟨b, 0, none⟩)) ∧ x.t.get 7 = some (.pointer (some ⟨f, 0, none⟩)) ∧ x.t.get 8 = some (.pointer (some ⟨o, 0, none⟩)) ∧ x.t.get 10 = some (.pointer (some ⟨p, 0, none⟩)) ∧ x.t.get 12 = some (.int .i64 (i : Int))) ∧
    OvAt x.s o m b es clock more ∧ Ext [o, m] s0 x.s
section
variable {E : Env} (hC : CFns E) (hP : PkFns E) (hF : Fns E) (hI : Its E) (hB : BFns E) (hR : R3Fns E) (hBa : BaseFns E) (hK : FkFns E) (hO : OvFns E) (hH : ChFns E) {s : DS} {d : Nat}
include hC hP hF hI hB hR hBa hK hO hH
theorem twoLaw (f7 : E.fn 7 = some d7) (i7 : E.intr 7 = none) (f27 : E.fn 27 = some d27) (i27 : E.intr 27 = none) (h11 : E.intr 11 = some trueD) (hG : s.Good) {v0 v1 : Value} {l l1 : List (List Value)} (hr : InRow s v0 l) (hl : ∀ x, x ∈ l → FitK [.int .i64, .int .i64, .int .i64] x) (hr1 : InRow s v1 l1) (hl1 : ∀ x, x ∈ l1 → FitK [.int .i64, .int .i64, .int .i64] x) :
    W (dcall E (d + 14) (.func (.func 7) #[] #[]) [v0, v1] s) fun r => r.1 = .bool true := by
  have lv : ∀ dd s, dcall E (dd + 1) (.func (.func 11) #[] #[]) [] s = some (.bool true, s) := fun _ _ => intr_run h11 rfl
  have hlf := hF.lf
  rw [W_enter0 i7 f7 rfl]
  simp (maxSteps := 4000000) only [WC_seq, WC_region, contS_normal, contR_ap, WO_nil, WO_pp, contO_ap, W_mv, W_call, ev_tmp, ev_const, ev_func, putT_some, get_put_eq, get_put_ne, not_false_eq_true, ofList_get, List.getElem?_cons_zero, Option.getD_some, List.map_cons, List.map_nil, reduceCtorEq, pp, pv, pw, pg, d7]
  refine W.mono (Base_ok hF hR hBa (d := d + 6) hG (by omega) hr hl) ?_
  rintro ⟨r, s1⟩ ⟨b, q, kv, vv, w, hr', cb, _, hb1, _, X1⟩
  simp only at hr' cb X1
  subst hr'
  have hG1 := X1.good hG
  simp (maxSteps := 4000000) only [WC_seq, WC_region, WC_cond, WC_skip, contS_normal, contR_ap, WO_nil, WO_pp, WO_g, gateO_ff, condC_false, contO_ap, atS_ap, atB_ap, W_some, W_mv, W_pick, W_eq1, W_un, W_ext, W_call, dpure, eqOne, ev_tmp, ev_const, ev_func, putT_some, get_put_eq, get_put_ne, Nat.reduceEqDiff, not_false_eq_true, Option.getD_some, List.map_cons, List.map_nil, getN, if_false, Bool.not_true, Bool.not_false, Bool.false_eq_true, lv]
  refine W.mono (Fork_ok hK (d := d + 11) cb hG1) ?_
  rintro ⟨r, s2⟩ ⟨f, kf, vf, hr', cf, X2, hf1⟩
  simp only at hr' cf X2
  subst hr'
  have hG2 := X2.good hG1
  simp (maxSteps := 4000000) only [WC_seq, WC_region, contS_normal, contR_ap, WO_nil, WO_pp, contO_ap, W_mv, W_call, ev_tmp, ev_func, putT_some, get_put_eq, get_put_ne, Nat.reduceEqDiff, not_false_eq_true, Option.getD_some, List.map_cons, List.map_nil]
  refine W.mono (onew_ok hF hO (b := b) (d := d + 12) hG2) ?_
  rintro ⟨r, s3⟩ ⟨o, m, hr', co, X3, ho1, hm1⟩
  simp only at hr' co X3
  subst hr'
  have hG3 := X3.good hG2
  simp (maxSteps := 4000000) only [WC_seq, WC_region, contS_normal, contR_ap, WO_nil, WO_pp, contO_ap, atS_ap, W_some, W_mv, W_ext, W_call, dpure, ev_tmp, ev_func, putT_some, get_put_eq, get_put_ne, Nat.reduceEqDiff, not_false_eq_true, Option.getD_some, List.map_cons, List.map_nil, getN]
  refine W.mono (onew_ok hF hO (b := b) (d := d + 12) hG3) ?_
  rintro ⟨r, s4⟩ ⟨p, mp, hr', cp, X4, hp1, hmp1⟩
  simp only at hr' cp X4
  subst hr'
  have hG4 := X4.good hG3
  have co4 := co.keep X4 (by simp) (by simp)
  have X14 : Ext [] s1 s4 := (X2.trans' X3).trans' X4
  have cb4 := cb.keep X14 (by simp)
  have cf4 := (cf.keep X3 (by simp)).keep X4 (by simp)
  have hbl := cb.lt
  have hfl := cf.lt
  have hol := DS.get_lt' co.go
  have hml := DS.get_lt' co.gm
  have hX2 := X2.le
  have hX3 := X3.le
  have hbo : ∀ k, k ∈ own b kv vv → k ≠ o ∧ k ≠ m := fun k hk => by have := hbl k hk; omega
  have hbp : ∀ k, k ∈ own b kv vv → k ≠ p ∧ k ≠ mp := fun k hk => by have := hbl k hk; omega
  have hfo : ∀ k, k ∈ own f kf vf → k ∉ [o, m] := fun k hk => by have := hfl k hk; simp; omega
  have hfp : ∀ k, k ∈ own f kf vf → k ∉ [p, mp] := fun k hk => by have := hfl k hk; simp; omega
  have hL20 : (puR 20 (l.take 100)).length ≤ 20 := by have := puR_len 20 (by omega) (l.take 100); omega
  have hL : (puR 20 (l.take 100)).length ≤ 4096 := by omega
  have hr14 := InRow.keep hr1 (X1.trans' X14) (by simp)
  simp (maxSteps := 4000000) only [WC_seq, WC_region, WC_cond, WC_block, WC_skip, contS_normal, contR_ap, WO_nil, WO_pp, WO_g, gateO_ff, condC_false, contO_ap, atS_ap, atB_ap, W_some, W_mv, W_pick, W_bin, W_eq1, W_ext, dpure, dbin, dint, eqOne, ev_tmp, ev_const, putT_some, get_put_eq, get_put_ne, Nat.reduceEqDiff, not_false_eq_true, Option.getD_some, getN, if_true, if_false, Bool.not_true, Bool.not_false, Bool.false_eq_true, decide_true]
  refine WC_loop (TwoI s4 o m b f p v1 l1) 101 (by omega) ⟨0, [], 0, 0, rfl, by omega, by omega, rfl, ?_, co4, .refl⟩ ?_
  · simp (maxSteps := 4000000) only [get_put_eq, get_put_ne, Nat.reduceEqDiff, not_false_eq_true, ofList_get, List.getElem?_cons_zero, List.getElem?_cons_succ, Bool.true_and, true_and]
    rfl
  rintro n ⟨t, s5, ds⟩ hn ⟨i, es, clock, more, rfl, hi, hil, hds, ⟨g1, g5, g7, g8, g10, g12⟩, c5, X5⟩
  simp only at hds g1 g5 g7 g8 g10 g12 c5 X5
  subst hds
  have hG5 := X5.good hG4
  have cb5 := cb4.keep X5 (fun k hk => by have := hbo k hk; simp; omega)
  have hno : ∀ k, k ∈ [o, m] → ∀ c, s4.get k ≠ some (.cells c true) := fun k hk c hc => by
    simp only [List.mem_cons, List.not_mem_nil, or_false] at hk
    rcases hk with rfl | rfl
    · rw [co4.go] at hc; cases hc
    · rw [co4.gm] at hc; cases hc
  have hr5 := InRow.keep hr14 X5 hno
  by_cases c1 : i < l1.length ∧ i < 100
  · obtain ⟨hi1, hi2⟩ := c1
    have e1 : (i : Int) < (l1.length : Int) := by omega
    have e2 : (i : Int) < 100 := by omega
    have w1 : dwrap .i64 ((i : Int) + 1) = ((i + 1 : Nat) : Int) := by rw [dwrap_in (by omega) (by omega)]; omega
    obtain ⟨x, vb, vc, hx, hv0, hb, _, q1, q2⟩ := row3 hr5 hl1 hi1
    rw [hv0] at g1
    simp (maxSteps := 4000000) only [WC_seq, WC_region, WC_cond, WC_block, WC_skip, contS_normal, contR_ap, WO_nil, WO_pp, WO_g, gateO_tt, condC_true, contO_ap, atS_ap, W_some, W_mv, W_pick, W_bin, W_fadr, W_ixL, W_blenL, W_ld, W_call, dpure, dbin, dint, ev_tmp, ev_const, ev_func, putT_some, get_put_eq, get_put_ne, Nat.reduceEqDiff, not_false_eq_true, Option.getD_some, List.map_cons, List.map_nil, ldV_at, Cells.get, Nat.zero_add, Nat.blt_eq, if_true, asIdx_cast, decide_true, g1, g5, g7, g8, g10, g12, e1, e2, hb, q1, q2, hi1]
    refine W.mono (oput_ok hF hO (d := d + 6) c5 cb5 hbo hG5 (rowK x) (rowV x)) ?_
    rintro ⟨v6, s6⟩ ⟨_, ⟨es6, cl6, mo6, c6⟩, X6⟩
    simp only at c6 X6
    have hG6 := X6.good hG5
    have hb6 := X6.keep hb (fun hk => by
      simp only [List.mem_cons, List.not_mem_nil, or_false] at hk
      rcases hk with h | h
      · rw [h, c5.go] at hb; simp at hb
      · rw [h, c5.gm] at hb; simp at hb)
    have cb6 := cb5.keep X6 (fun k hk => by have := hbo k hk; simp; omega)
    simp (maxSteps := 4000000) only [WC_region, contS_normal, contR_ap, WO_nil, WO_pp, contO_ap, atS_ap, W_some, W_mv, W_fadr, W_ixL, W_ld, W_call, dpure, ev_tmp, ev_func, putT_some, get_put_eq, get_put_ne, Nat.reduceEqDiff, not_false_eq_true, Option.getD_some, List.map_cons, List.map_nil, ldV_at, Cells.get, Nat.zero_add, Nat.blt_eq, if_true, asIdx_cast, g1, g5, g7, g8, g10, g12, hb6, q1, q2, hi1]
    refine W.mono (odel_ok hF hO (d := d + 6) c6 cb6 hbo hG6 (rowV x)) ?_
    rintro ⟨v7, s7⟩ ⟨_, ⟨es7, cl7, mo7, c7⟩, X7⟩
    simp only at c7 X7
    simp (maxSteps := 4000000) only [WC_region, contS_normal, contB_normal, contR_ap, contL_normal, WO_nil, WO_pp, contO_ap, atS_ap, W_some, W_mv, W_bin, dbin, dint, ev_tmp, ev_const, putT_some, get_put_eq, get_put_ne, Nat.reduceEqDiff, not_false_eq_true, Option.getD_some, if_true, g1, g5, g7, g8, g10, g12, w1]
    exact ⟨101 - (i + 1), by omega, ⟨i + 1, es7, cl7, mo7, rfl, by omega, by omega, rfl, by simp (maxSteps := 4000000) only [get_put_eq, get_put_ne, Nat.reduceEqDiff, not_false_eq_true, Bool.and_self, and_self, g1, g5, g7, g8, g10, hv0], c7, X5.trans' (X6.trans' X7)⟩⟩
  · have hvl : ∃ a c, v1 = .slice a l1.length c := by
      rcases hr1 with ⟨rfl, rfl⟩ | ⟨b, c, rfl, _⟩
      · exact ⟨_, _, rfl⟩
      · exact ⟨_, _, rfl⟩
    obtain ⟨a, cc, hv0⟩ := hvl
    rw [hv0] at g1
    have cf5 := cf4.keep X5 hfo
    have cp5 := cp.keep X5 (by simp; omega) (by simp; omega)
    by_cases c2 : (i : Int) < (l1.length : Int)
    · have c3 : ¬ (i : Int) < 100 := by omega
      simp (maxSteps := 4000000) only [WC_seq, WC_region, WC_cond, WC_exit, contS_normal, contS_exit, contB_exit, contR_ap, contL_exit, WO_nil, WO_pp, WO_g, gateO_tt, condC_false, contO_ap, atS_ap, W_some, W_mv, W_pick, W_bin, W_blenL, W_call, dpure, dbin, dint, ev_tmp, ev_const, ev_func, putT_some, get_put_eq, get_put_ne, Nat.reduceEqDiff, not_false_eq_true, Option.getD_some, List.map_cons, List.map_nil, if_true, decide_true, decide_false, g1, g5, g7, g8, g10, g12, c2, c3]
      refine W.mono (odrop_ok hF hO (d := d + 11) c5) ?_
      rintro ⟨v6, s6⟩ ⟨h6, c6, X6⟩
      simp only at h6 c6 X6
      subst h6
      have hG6 := X6.good hG5
      have cb6 := cb5.keep X6 (fun k hk => by have := hbo k hk; simp; omega)
      have cf6 := cf5.keep X6 hfo
      have cp6 := cp5.keep X6 (by simp; omega) (by simp; omega)
      have hlen := cb6.len
      have w0 : dwrap .i64 (((puR 20 (l.take 100)).length : Int) + 0) = ((puR 20 (l.take 100)).length : Int) := by rw [Int.add_zero]; exact dwrap_in (by omega) (by omega)
      have hfl6 := Len_ok hF cf6 (d := d + 12)
      simp (maxSteps := 4000000) only [WC_seq, WC_region, contS_normal, contR_ap, WO_nil, WO_pp, contO_ap, W_mv, W_call, ev_tmp, ev_func, putT_some, get_put_eq, get_put_ne, Nat.reduceEqDiff, not_false_eq_true, Option.getD_some, List.map_cons, List.map_nil, g10]
      refine W.mono (olen_ok hF hO (d := d + 11) cp6.go cb6 hbp) ?_
      rintro ⟨v, s'⟩ hvs
      cases hvs
      simp (maxSteps := 4000000) only [WO_pp, WO_g, gateO_tt, contO_ap, atS_ap, W_some, W_mv, W_bin, W_call, dbin, dint, ev_tmp, ev_func, putT_some, get_put_eq, get_put_ne, Nat.reduceEqDiff, not_false_eq_true, Option.getD_some, List.map_cons, List.map_nil, if_true, decide_true, g7, g10, w0, hfl6]
      refine W.mono (ocommit_empty hF hO hH (d := d + 9) cp6 hG6) ?_
      rintro ⟨v7, s7⟩ ⟨h7, c7, X7⟩
      simp only at h7 c7 X7
      subst h7
      have hG7 := X7.good hG6
      have cb7 := cb6.keep X7 (fun k hk => by have := hbp k hk; simp; omega)
      have cf7 := cf6.keep X7 hfp
      have co7 := c6.keep X7 (by simp; omega) (by simp; omega)
      simp (maxSteps := 4000000) only [WO_pp, WO_g, gateO_tt, contO_ap, atS_ap, W_some, W_mv, W_pick, W_bin, W_call, dpure, dbin, dint, ev_tmp, ev_const, ev_func, putT_some, get_put_eq, get_put_ne, Nat.reduceEqDiff, not_false_eq_true, Option.getD_some, List.map_cons, List.map_nil, if_true, decide_true, g8]
      refine W.mono (ocommit_empty hF hO hH (d := d + 9) co7 hG7) ?_
      rintro ⟨v8, s8⟩ ⟨h8, c8, X8⟩
      simp only at h8 c8 X8
      subst h8
      have hG8 := X8.good hG7
      have cb8 := cb7.keep X8 (fun k hk => by have := hbo k hk; simp; omega)
      have cf8 := cf7.keep X8 hfo
      simp (maxSteps := 4000000) only [WO_pp, WO_g, gateO_tt, contO_ap, atS_ap, W_some, W_mv, W_pick, W_bin, W_call, dpure, dbin, dint, ev_tmp, ev_const, ev_func, putT_some, get_put_eq, get_put_ne, Nat.reduceEqDiff, not_false_eq_true, Option.getD_some, List.map_cons, List.map_nil, if_true, decide_true, g5]
      refine W.mono (Digest_ok hC hP hF hI hB (d := d) cb8 hG8 (by omega) hL (by omega) f27 i27) ?_
      rintro ⟨v9, s9⟩ ⟨h9, X9⟩
      simp only at h9 X9
      subst h9
      simp (maxSteps := 4000000) only [WO_pp, WO_g, gateO_tt, contO_ap, W_mv, W_call, ev_tmp, ev_func, putT_some, get_put_eq, get_put_ne, Nat.reduceEqDiff, not_false_eq_true, Option.getD_some, List.map_cons, List.map_nil, g7]
      refine W.mono (Digest_ok hC hP hF hI hB (d := d) (cf8.keep X9 (by simp)) (X9.good hG8) (by omega) hL (by omega) f27 i27) ?_
      rintro ⟨va, sa⟩ ⟨ha, Xa⟩
      simp only at ha Xa
      subst ha
      have hoo := arr_self (digF_U (accF [packB 20 (puR 20 (l.take 100))]))
      have hoo' : eqValF 5000 (.arr 32 1 (.one .int)) (.agg ⟨sumsF [packB 20 (puR 20 (l.take 100))]⟩) (.agg ⟨sumsF [packB 20 (puR 20 (l.take 100))]⟩) = some true := hoo
      simp (maxSteps := 4000000) only [WC_ret, contS_normal, contR_ap, WO_nil, WO_pp, WO_g, gateO_tt, contO_ap, atS_ap, W_some, W_mv, W_pick, dpure, Ends_ret, ev_tmp, ev_const, putT_some, get_put_eq, get_put_ne, Nat.reduceEqDiff, not_false_eq_true, Option.getD_some, dresults, tupled, if_true, if_false, Bool.not_true, Bool.false_eq_true, W_eq, hoo']
    · simp (maxSteps := 4000000) only [WC_seq, WC_region, WC_cond, WC_exit, contS_normal, contS_exit, contB_exit, contR_ap, contL_exit, WO_nil, WO_pp, WO_g, gateO_ft, condC_false, contO_ap, atS_ap, W_some, W_mv, W_pick, W_bin, W_blenL, W_call, dpure, dbin, dint, ev_tmp, ev_const, ev_func, putT_some, get_put_eq, get_put_ne, Nat.reduceEqDiff, not_false_eq_true, Option.getD_some, List.map_cons, List.map_nil, if_true, if_false, Bool.false_eq_true, List.nil_append, decide_false, g1, g5, g7, g8, g10, g12, c2]
      refine W.mono (odrop_ok hF hO (d := d + 11) c5) ?_
      rintro ⟨v6, s6⟩ ⟨h6, c6, X6⟩
      simp only at h6 c6 X6
      subst h6
      have hG6 := X6.good hG5
      have cb6 := cb5.keep X6 (fun k hk => by have := hbo k hk; simp; omega)
      have cf6 := cf5.keep X6 hfo
      have cp6 := cp5.keep X6 (by simp; omega) (by simp; omega)
      have hlen := cb6.len
      have w0 : dwrap .i64 (((puR 20 (l.take 100)).length : Int) + 0) = ((puR 20 (l.take 100)).length : Int) := by rw [Int.add_zero]; exact dwrap_in (by omega) (by omega)
      have hfl6 := Len_ok hF cf6 (d := d + 12)
      simp (maxSteps := 4000000) only [WC_seq, WC_region, contS_normal, contR_ap, WO_nil, WO_pp, contO_ap, W_mv, W_call, ev_tmp, ev_func, putT_some, get_put_eq, get_put_ne, Nat.reduceEqDiff, not_false_eq_true, Option.getD_some, List.map_cons, List.map_nil, g10]
      refine W.mono (olen_ok hF hO (d := d + 11) cp6.go cb6 hbp) ?_
      rintro ⟨v, s'⟩ hvs
      cases hvs
      simp (maxSteps := 4000000) only [WO_pp, WO_g, gateO_tt, contO_ap, atS_ap, W_some, W_mv, W_bin, W_call, dbin, dint, ev_tmp, ev_func, putT_some, get_put_eq, get_put_ne, Nat.reduceEqDiff, not_false_eq_true, Option.getD_some, List.map_cons, List.map_nil, if_true, decide_true, g7, g10, w0, hfl6]
      refine W.mono (ocommit_empty hF hO hH (d := d + 9) cp6 hG6) ?_
      rintro ⟨v7, s7⟩ ⟨h7, c7, X7⟩
      simp only at h7 c7 X7
      subst h7
      have hG7 := X7.good hG6
      have cb7 := cb6.keep X7 (fun k hk => by have := hbp k hk; simp; omega)
      have cf7 := cf6.keep X7 hfp
      have co7 := c6.keep X7 (by simp; omega) (by simp; omega)
      simp (maxSteps := 4000000) only [WO_pp, WO_g, gateO_tt, contO_ap, atS_ap, W_some, W_mv, W_pick, W_bin, W_call, dpure, dbin, dint, ev_tmp, ev_const, ev_func, putT_some, get_put_eq, get_put_ne, Nat.reduceEqDiff, not_false_eq_true, Option.getD_some, List.map_cons, List.map_nil, if_true, decide_true, g8]
      refine W.mono (ocommit_empty hF hO hH (d := d + 9) co7 hG7) ?_
      rintro ⟨v8, s8⟩ ⟨h8, c8, X8⟩
      simp only at h8 c8 X8
      subst h8
      have hG8 := X8.good hG7
      have cb8 := cb7.keep X8 (fun k hk => by have := hbo k hk; simp; omega)
      have cf8 := cf7.keep X8 hfo
      simp (maxSteps := 4000000) only [WO_pp, WO_g, gateO_tt, contO_ap, atS_ap, W_some, W_mv, W_pick, W_bin, W_call, dpure, dbin, dint, ev_tmp, ev_const, ev_func, putT_some, get_put_eq, get_put_ne, Nat.reduceEqDiff, not_false_eq_true, Option.getD_some, List.map_cons, List.map_nil, if_true, decide_true, g5]
      refine W.mono (Digest_ok hC hP hF hI hB (d := d) cb8 hG8 (by omega) hL (by omega) f27 i27) ?_
      rintro ⟨v9, s9⟩ ⟨h9, X9⟩
      simp only at h9 X9
      subst h9
      simp (maxSteps := 4000000) only [WO_pp, WO_g, gateO_tt, contO_ap, W_mv, W_call, ev_tmp, ev_func, putT_some, get_put_eq, get_put_ne, Nat.reduceEqDiff, not_false_eq_true, Option.getD_some, List.map_cons, List.map_nil, g7]
      refine W.mono (Digest_ok hC hP hF hI hB (d := d) (cf8.keep X9 (by simp)) (X9.good hG8) (by omega) hL (by omega) f27 i27) ?_
      rintro ⟨va, sa⟩ ⟨ha, Xa⟩
      simp only at ha Xa
      subst ha
      have hoo := arr_self (digF_U (accF [packB 20 (puR 20 (l.take 100))]))
      have hoo' : eqValF 5000 (.arr 32 1 (.one .int)) (.agg ⟨sumsF [packB 20 (puR 20 (l.take 100))]⟩) (.agg ⟨sumsF [packB 20 (puR 20 (l.take 100))]⟩) = some true := hoo
      simp (maxSteps := 4000000) only [WC_ret, contS_normal, contR_ap, WO_nil, WO_pp, WO_g, gateO_tt, contO_ap, atS_ap, W_some, W_mv, W_pick, dpure, Ends_ret, ev_tmp, ev_const, putT_some, get_put_eq, get_put_ne, Nat.reduceEqDiff, not_false_eq_true, Option.getD_some, dresults, tupled, if_true, if_false, Bool.not_true, Bool.false_eq_true, W_eq, hoo']
end
end Go.Dx.OvA
