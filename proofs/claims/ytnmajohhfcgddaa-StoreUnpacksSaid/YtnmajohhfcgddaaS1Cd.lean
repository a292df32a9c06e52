/- How codes are written: what the functions of codec do (made by tools/gen.py out of codec.t). -/
import Derived.Test.YtnmajohhfcgddaaDxSk
import Derived.Test.YtnmajohhfcgddaaDxOut
set_option linter.unusedVariables false
set_option linter.unusedSimpArgs false
set_option linter.unusedSectionVars false
set_option maxRecDepth 100000
set_option maxHeartbeats 4000000
namespace Go.Dx.StA
open Go Go.Dx Go.Proofs.Ytnmajohhfcgddaa

structure CFns (E : Env) : Prop where
  fcput : E.fn 100 = some d100
  icput : E.intr 100 = none
  fclow : E.fn 93 = some d93
  iclow : E.intr 93 = none
  fnum : E.fn 78 = some d78
  inum : E.intr 78 = none
  fnum1 : E.fn 92 = some d92
  inum1 : E.intr 92 = none
  lf : 10000 ≤ E.lf
structure LowI (s0 : DS) (N o : Nat) (x : Int) (size : Nat) (n : Nat) (y : St) : Prop where
  ex : ∃ j : Nat, n = size - j ∧ j ≤ size ∧ y.defers = [] ∧ (y.t.get 0 = some (.pointer (some ⟨o, 0, none⟩)) ∧ y.t.get 2 = some (.int .i64 x) ∧ y.t.get 3 = some (.int .i64 (size : Int)) ∧ y.t.get 8 = some (.pointer (some ⟨N, 0, none⟩)) ∧ y.t.get 22 = some (.int .i64 (size : Int)) ∧ y.t.get 23 = some (.int .i64 (j : Int))) ∧
    Ext [N] s0 y.s ∧ ∃ rest, y.s.get N = some (.cells (.list ((leB x j).map (fun n => .int .u8 n) ++ rest)) false) ∧ ((leB x j).map (fun n => Value.int .u8 n) ++ rest).length = 8
section
variable {E : Env} (hC : CFns E) {s : DS} {o : Nat} {bv : Value} {bs cs : List Int} {d : Nat}
include hC
theorem cput_ok (h : OutAt s o bv bs) (hG : s.Good) {y : Value} (hy : SlV s 1 y (bytesV cs)) (hlen : bs.length + cs.length ≤ 1048576) :
    W (dcall E (d + 1) (.func (.func 100) #[] #[]) [.pointer (some ⟨o, 0, none⟩), y] s) (PutQ s o bv (bs ++ cs)) := by
  have go := h.go
  have wo := h.wo
  have hol := DS.get_lt' go
  obtain ⟨ab, cb, hbv⟩ := h.sl.shape
  rw [bytesV_len] at hbv
  have hyl : ∃ a c, y = .slice a cs.length c := by
    rcases hy with ⟨rfl, h0⟩ | ⟨b, off, sp, c, rfl, _⟩
    · have : cs = [] := by simpa [bytesV] using h0
      subst this
      exact ⟨none, 0, rfl⟩
    · exact ⟨_, c, by rw [bytesV_len]⟩
  obtain ⟨ya, yc, rfl⟩ := hyl
  have w1 : dwrap .i64 (1048576 - (bs.length : Int)) = 1048576 - (bs.length : Int) := dwrap_in (by omega) (by omega)
  have e1 : ¬ 1048576 - (bs.length : Int) < (cs.length : Int) := by omega
  refine W_cps fun Q hQ => ?_
  rw [W_enter0 hC.icput hC.fcput rfl]
  have hsl := h.sl
  subst hbv
  simp (maxSteps := 4000000) only [WC_seq, WC_region, WC_cond, WC_block, contS_normal, contR_ap, WO_nil, WO_pp, condC_false, contO_ap, atS_ap, W_some, W_mv, W_bin, W_nilck, W_fadr, W_blenL, W_ld, dpure, dbin, dint, ev_tmp, ev_const, putT_some, get_put_eq, get_put_ne, Nat.reduceEqDiff, not_false_eq_true, ofList_get, List.getElem?_cons_zero, List.getElem?_cons_succ, Option.getD_some, ldV_at, Cells.get, getN, Nat.zero_add, if_true, reduceCtorEq, Bool.not_true, pp, pv, W_app, Nat.add_zero, decide_true, decide_false, d100, go, w1, e1]
  refine W.mono (appC_ok hsl hy (bytesV_ok _) (bytesV_ok _) hG ?_ ?_) ?_
  · rw [bytesV_len, bytesV_len]; omega
  · rw [bytesV_len, bytesV_len]; omega
  rintro ⟨v1, s1⟩ ⟨h1, X1, b1, _⟩
  simp only at h1 X1 b1
  have ho : o ∉ blk (.slice ab bs.length cb) := fun hk => by have := h.up o hk; omega
  have go1 := X1.keep go ho
  have wo1 := X1.wrs wo
  obtain ⟨a1, c1, hv1⟩ := h1.shape
  have hl1 : (bytesV bs ++ bytesV cs).length = (bs ++ cs).length := by rw [List.length_append, bytesV_len, bytesV_len, List.length_append]
  rw [hl1] at hv1
  subst hv1
  simp (maxSteps := 4000000) only [contB_normal, contR_ap, WO_nil, WO_pp, contO_ap, atS_ap, atD_ap, W_some, W_nilck, W_fadr, W_st, dpure, Ends_normal, ev_tmp, putT_some, putT_none, get_put_eq, get_put_ne, Nat.reduceEqDiff, not_false_eq_true, Option.getD_some, dresults, tupled, Nat.zero_add, Nat.reduceAdd, st_wr, cells_slice, List.length_cons, List.length_nil, allOne, oneCellD, Bool.and_self, Bool.and_true, Nat.beq_eq, Nat.ble_eq, Nat.reduceLeDiff, if_true, DS.wrC, Cells.size, Cells.fillFrom, Cells.set, setN, List.length_append, Nat.add_zero, go1, wo1]
  have hup : ∀ k, k ∈ blk (.slice a1 (bs ++ cs).length c1) → o < k := fun k hk => by
    rcases b1 k hk with h2 | h2
    · exact h.up k h2
    · omega
  have X2 : ∀ ob, Ext [o] s1 (s1.upd o ob) := fun ob => Ext.upd (.inl (by simp))
  refine hQ _ ⟨rfl, .slice a1 (bs ++ cs).length c1, ⟨?_, ?_, ?_, hup, ?_⟩, ?_, b1⟩
  · simp (maxSteps := 4000000) only [DS.upd_get_self, Option.map_some, List.length_append, go1]
  · simp (maxSteps := 4000000) only [DS.upd_wr, wo1]
  · rw [bytesV_app]
    exact h1.keep (X2 _) fun k hk => by have := hup k hk; simp; omega
  · rw [List.length_append]; exact hlen
  · exact (X1.weaken (by intro k hk; exact .inl (List.mem_cons_of_mem _ hk))).trans' ((X2 _).weaken (by simp))
theorem clow_ok (h : OutAt s o bv bs) (hG : s.Good) (x : Int) {size : Nat} (hs : size ≤ 8) (hlen : bs.length + size ≤ 1048576) :
    W (dcall E (d + 2) (.func (.func 93) #[] #[]) [.pointer (some ⟨o, 0, none⟩), .bool true, .int .i64 x, .int .i64 (size : Int)] s) (PutQ s o bv (bs ++ leB x size)) := by
  have go := h.go
  have wo := h.wo
  have hol := DS.get_lt' go
  have hlf := hC.lf
  refine W_cps fun Q hQ => ?_
  rw [W_enter0 hC.iclow hC.fclow rfl]
  simp (maxSteps := 4000000) (maxDischargeDepth := 8) only [WC_seq, WC_region, WC_cond, WC_block, WC_skip, contS_normal, contR_ap, WO_nil, WO_pp, WO_g, gateO_tt, condC_false, contO_ap, atS_ap, W_some, W_mv, W_pick, W_bin, W_un, W_nilck, W_fadr, W_ld, W_alloc, dpure, dbin, dint, ev_tmp, ev_const, putT_some, get_put_eq, get_put_ne, not_false_eq_true, ofList_get, List.getElem?_cons_zero, List.getElem?_cons_succ, Option.getD_some, ldV_at, Cells.get, getN, Nat.zero_add, if_true, Bool.not_true, pp, pv, pw, pg, decide_true, eq_lt, Nat.reduceLT, Nat.lt_add_one, d93, go]
  obtain ⟨S, hS⟩ : ∃ S : DS, S = s.new (.cells (.list [.int .u8 0, .int .u8 0, .int .u8 0, .int .u8 0, .int .u8 0, .int .u8 0, .int .u8 0, .int .u8 0]) false) := ⟨_, rfl⟩
  rw [← hS]
  have XS : Ext [] s S := by rw [hS]; exact Ext.new
  have hGS := XS.good hG
  have gS : S.get s.next = some (.cells (.list [.int .u8 0, .int .u8 0, .int .u8 0, .int .u8 0, .int .u8 0, .int .u8 0, .int .u8 0, .int .u8 0]) false) := by rw [hS]; exact DS.new_get_self hG
  have wS : S.wr s.next = true := XS.wrs (hG _ (Nat.le_refl _)).2
  refine WC_loop (LowI S s.next o x size) size (by omega) ⟨0, rfl, Nat.zero_le _, rfl, ?_, .refl, _, by simpa [leB] using gS, by simp [leB]⟩ ?_
  · simp (maxSteps := 4000000) only [get_put_eq, get_put_ne, Nat.reduceEqDiff, not_false_eq_true, ofList_get, List.getElem?_cons_zero, List.getElem?_cons_succ, Bool.true_and, true_and, reduceCtorEq]
    rfl
  rintro n ⟨t, s2, ds⟩ hn ⟨j, rfl, hj, hds, ⟨g0, g2, g3, g8, g22, g23⟩, X2, rest, gN, hl8⟩
  simp only at hds g0 g2 g3 g8 g22 g23 X2 gN
  subst hds
  have wN := X2.wrs wS
  by_cases c1 : j < size
  · have e1 : (j : Int) < (size : Int) := by omega
    have w1 : dwrap .i64 ((j : Int) + 1) = ((j + 1 : Nat) : Int) := by rw [dwrap_in (by omega) (by omega)]; omega
    have w2 : dwrap .i64 (8 * (j : Int)) = ((8 * j : Nat) : Int) := by rw [dwrap_in (by omega) (by omega)]; omega
    have hsh : dshift .shr .u64 (dwrap .u64 x) ((8 * j : Nat) : Int) = some (.int .u64 ((dwrap .u64 x).fdiv (Int.ofNat (2 ^ (8 * j))))) := by
      unfold dshift
      rw [if_neg (by omega)]
      have e2 : Nat.ble (bitsOf .u64) ((8 * j : Nat) : Int).toNat = false := by rw [bleF]; simp [bitsOf]; omega
      simp only [e2, Bool.false_eq_true, if_false]
      rfl
    have e8 : j < 8 := by omega
    have hlj : (leB x j).length = j := leB_len x j
    have hsize : j + 1 ≤ (leB x j).length + rest.length := by
      rw [List.length_append, List.length_map] at hl8; omega
    simp (maxSteps := 4000000) only [WC_seq, WC_region, WC_cond, WC_block, WC_skip, contS_normal, contB_normal, contR_ap, contL_normal, WO_nil, WO_pp, condC_true, contO_ap, atS_ap, atD_ap, W_some, W_mv, W_bin, W_cvInt, W_st, dpure, dbin, dint, ev_tmp, ev_const, putT_some, putT_none, get_put_eq, get_put_ne, Nat.reduceEqDiff, not_false_eq_true, Option.getD_some, Nat.zero_add, st_wr, cells_int, List.length_cons, List.length_nil, allOne, oneCellD, Bool.and_self, Bool.and_true, Nat.beq_eq, Nat.ble_eq, Nat.blt_eq, if_true, DS.wrC, Cells.size, Cells.fillFrom, Cells.set, List.length_append, asIdx_cast, Nat.mul_one, decide_true, W_ixA, g0, g2, g3, g8, g22, g23, e1, w1, w2, hsh, e8, gN, wN, List.length_map, hsize]
    have hset : ∃ r2, setN ((leB x j).map (fun n => Value.int .u8 n) ++ rest) j (.int .u8 (leI x j)) = (leB x (j + 1)).map (fun n => .int .u8 n) ++ r2 ∧ ((leB x (j + 1)).map (fun n => Value.int .u8 n) ++ r2).length = 8 := by
      refine ⟨rest.drop 1, ?_, ?_⟩
      · rw [setN_set, List.set_append_right _ _ (by rw [List.length_map, hlj]; exact Nat.le_refl _), leB_succ, List.map_append, List.append_assoc]
        congr 1
        rw [List.length_map, hlj, Nat.sub_self]
        cases rest with
        | nil => simp at hsize; omega
        | cons a r => simp
      · rw [leB_succ]
        simp only [List.length_append, List.length_map, List.length_cons, List.length_nil, List.length_drop] at hl8 ⊢
        omega
    obtain ⟨r2, hr2, hl2⟩ := hset
    rw [show dwrap .u8 ((dwrap .u64 x).fdiv (Int.ofNat (2 ^ (8 * j)))) = leI x j from rfl, hr2]
    refine ⟨size - (j + 1), by omega, ⟨j + 1, rfl, by omega, rfl, by simp (maxSteps := 4000000) only [get_put_eq, get_put_ne, Nat.reduceEqDiff, not_false_eq_true, Bool.and_self, and_self, reduceCtorEq, g0, g2, g3, g8, g22, g23], X2.trans' (Ext.upd (.inl (by simp))), r2, ?_, hl2⟩⟩
    simp (maxSteps := 4000000) only [DS.upd_get_self, Option.map_some, gN]
  · obtain rfl : j = size := by omega
    have e1 : ¬ (j : Int) < (j : Int) := by omega
    have hbd : bounds 8 8 none (some (.int .i64 (j : Int))) none = some (0, j, 8) := by
      unfold bounds
      simp only [asIdx_cast, Nat.ble_eq.mpr hs, if_true]
    simp (maxSteps := 4000000) only [WC_seq, WC_region, WC_cond, WC_exit, contS_normal, contS_exit, contB_exit, contR_ap, contL_exit, WO_nil, WO_pp, condC_false, contO_ap, atS_ap, W_some, W_mv, W_bin, W_call, dpure, dbin, dint, ev_tmp, ev_func, putT_some, get_put_eq, get_put_ne, Nat.reduceEqDiff, not_false_eq_true, Option.getD_some, List.map_cons, List.map_nil, if_true, reduceCtorEq, Option.map_some, Option.map_none, Nat.add_zero, Nat.mul_one, decide_false, W_slA, g0, g2, g3, g8, g22, g23, e1, hbd, slTail]
    have h2 : OutAt s2 o bv bs := by
      have X := XS.trans X2 (by simp)
      exact ⟨X.keep h.go (by simp), X.wrs h.wo, h.sl.keep X (by simp), h.up, h.len⟩
    have hv : SlV s2 1 (.slice (some ⟨s.next, 0, none⟩) j 8) (bytesV (leB x j)) := by
      refine .inr ⟨s.next, 0, none, 8, by rw [bytesV_len, leB_len], ?_⟩
      have hfl : (bytesV (leB x j)).flatten = (leB x j).map fun n => .int .u8 n := by
        have : ∀ l : List Int, (bytesV l).flatten = l.map fun n => .int .u8 n := fun l => by
          induction l with
          | nil => rfl
          | cons a l ih => unfold bytesV at ih ⊢; simp [ih]
        exact this _
      unfold DS.read
      rw [gN]
      simp only
      rw [bytesV_len, leB_len, Nat.mul_one, take_list _ _ _ (by omega), hfl]
      simp only [List.drop_zero]
      rw [List.take_append_of_le_length (by rw [List.length_map, leB_len]; exact Nat.le_refl _), List.take_of_length_le (by rw [List.length_map, leB_len]; exact Nat.le_refl _)]
    refine W.mono (cput_ok hC h2 (X2.good hGS) hv (by rw [leB_len]; exact hlen)) ?_
    rintro ⟨v3, s3⟩ h3
    have hv3 := h3.val
    simp only at hv3
    subst hv3
    simp (maxSteps := 4000000) only [contR_ap, WO_nil, contO_ap, W_some, Ends_normal, putT_some, dresults, tupled]
    refine hQ _ ⟨rfl, ?_⟩
    have X := XS.trans X2 (F := []) (by simp)
    exact (PutQ.next (X.weaken (by simp)) (fun k hk => .inl hk) h3).ex
/-- a whole number as itself -/
def repI (_ : Nat) (_ : DS) (v : Value) (x : Int) : Prop := v = .int .i64 x
omit hC in
theorem repI_ok : RepOk repI := ⟨fun _ _ _ _ _ h _ => h, fun _ _ _ _ _ h _ => h⟩
/-- what a field of whole numbers may hold -/
def okNum (size : Nat) (most : Int) (x : Int) : Prop := size = 8 ∨ (0 ≤ x ∧ x ≤ most)
theorem num_put {b1 b2 size : Nat} {most : Int} (hs : size ≤ 8) :
    PutS E 3 (.func (.func 92) #[] #[.pointer (some ⟨b1, 0, none⟩), .pointer (some ⟨b2, 0, none⟩)]) [(b1, .cells (.list [.int .i64 (size : Int)]) false), (b2, .cells (.list [.int .i64 most]) false)] repI (okNum size most) (fun x => leB x size) := by
  intro d s o bv bs v x hD hb h hG hv hx hlen
  have hv : v = .int .i64 x := hv
  subst hv
  have g1 := hD _ (List.mem_cons_self ..)
  have g2 := hD (b2, _) (List.mem_cons_of_mem _ (List.mem_cons_self ..))
  simp only at g1 g2
  rw [leB_len] at hlen
  refine W_cps fun Q hQ => ?_
  rw [W_enter hC.inum1 hC.fnum1 rfl]
  by_cases c1 : size = 8
  · subst c1
    have h8 : ((8 : Nat) : Int) = 8 := rfl
    rw [h8] at g1
    have hcl := clow_ok (d := d) hC h hG x (size := 8) (Nat.le_refl _) hlen
    rw [h8] at hcl
    simp (maxSteps := 4000000) only [WC_region, WO_pp, WO_g, gateO_tf, contO_ap, atS_ap, W_some, W_mv, W_pick, W_bin, W_ld, W_call, dpure, dbin, dint, ev_tmp, ev_const, ev_func, putT_some, get_put_eq, get_put_ne, Nat.reduceEqDiff, not_false_eq_true, ofList_get, List.getElem?_cons_zero, List.getElem?_cons_succ, Option.getD_some, List.map_cons, List.map_nil, ldV_at, Cells.get, getN, if_true, if_false, Bool.false_eq_true, List.nil_append, List.cons_append, pp, pv, pw, pg, decide_true, gateO_un, d92, g1, g2]
    refine W.mono hcl ?_
    rintro ⟨v3, s3⟩ h3
    simp (maxSteps := 4000000) only [contR_ap, WO_nil, contO_ap, W_some, Ends_normal, putT_some, dresults, tupled]
    exact hQ _ ⟨rfl, h3.ex⟩
  · have e1 : ¬ (size : Int) = 8 := by omega
    have hx : 0 ≤ x ∧ x ≤ most := by
      rcases hx with h | h
      · exact absurd h c1
      · exact h
    obtain ⟨e2, e3⟩ := hx
    simp (maxSteps := 4000000) only [WC_region, WO_pp, WO_g, gateO_tt, gateO_ff, contO_ap, atS_ap, W_some, W_mv, W_pick, W_bin, W_ld, W_call, dpure, dbin, dint, ev_tmp, ev_const, ev_func, putT_some, get_put_eq, get_put_ne, Nat.reduceEqDiff, not_false_eq_true, ofList_get, List.getElem?_cons_zero, List.getElem?_cons_succ, Option.getD_some, List.map_cons, List.map_nil, ldV_at, Cells.get, getN, if_true, if_false, Bool.false_eq_true, List.nil_append, List.cons_append, pp, pv, pw, pg, decide_true, decide_false, d92, g1, g2, e1, e2, e3]
    refine W.mono (clow_ok hC h hG x hs hlen) ?_
    rintro ⟨v3, s3⟩ h3
    simp (maxSteps := 4000000) only [contR_ap, WO_nil, contO_ap, W_some, Ends_normal, putT_some, dresults, tupled]
    exact hQ _ ⟨rfl, h3.ex⟩
/-- a field of whole numbers is made -/
theorem num_ok (hG : s.Good) (size most : Int) :
    W (dcall E (d + 1) (.func (.func 78) #[] #[]) [.int .i64 size, .int .i64 most] s) fun r => r.1 = .agg ⟨[.func (.func 92) #[] #[.pointer (some ⟨s.next, 0, none⟩), .pointer (some ⟨s.next + 1, 0, none⟩)], .func (.func 94) #[] #[.pointer (some ⟨s.next, 0, none⟩), .pointer (some ⟨s.next + 1, 0, none⟩)]]⟩ ∧
      r.2.get s.next = some (.cells (.list [.int .i64 size]) false) ∧ r.2.get (s.next + 1) = some (.cells (.list [.int .i64 most]) false) ∧ Ext [] s r.2 ∧ r.2.next = s.next + 3 := by
  refine W_cps fun Q hQ => ?_
  rw [W_enter0 hC.inum hC.fnum rfl]
  simp (maxSteps := 4000000) (maxDischargeDepth := 8) only [WC_seq, WC_region, WC_ret, contS_normal, contR_ap, WO_nil, WO_pp, contO_ap, atD_ap, atG_ap, W_some, W_build, W_mkf, W_st, W_alloc, W_box, dread, Ends_ret, ev_tmp, putT_some, putT_none, get_put_eq, get_put_ne, not_false_eq_true, ofList_get, List.getElem?_cons_zero, List.getElem?_cons_succ, Option.getD_some, dresults, tupled, List.map_cons, List.map_nil, Cells.get, getN, Nat.zero_add, Nat.reduceAdd, st_wr, cells_int, cells_func, cells_agg, List.length_cons, List.length_nil, allOne, oneCellD, Bool.and_self, Bool.and_true, Bool.and_eq_true, Nat.beq_eq, Nat.ble_eq, Nat.reduceLeDiff, Nat.le_refl, and_self, if_true, DS.wrC, Cells.size, Cells.fillFrom, Cells.set, setN, fillParts, List.take_zero, List.take_succ_cons, List.drop_succ_cons, List.drop_zero, List.nil_append, List.cons_append, List.drop_nil, List.append_nil, pp, DS.upd_get_self, Option.map_some, nextN, wrN, DS.read, Cells.take, get_new_at, good_new, good_at, eq_lt, Nat.add_assoc, Nat.reduceLT, Nat.lt_add_one, d78, hG]
  refine hQ _ ⟨rfl, ?_, ?_, ?_, ?_⟩
  · simp (maxSteps := 4000000) (maxDischargeDepth := 8) only [not_false_eq_true, Nat.reduceAdd, DS.upd_get_ne, nextN, get_new_at, get_new_ne, good_new, eq_lt, lt_add_s, Nat.add_assoc, Nat.lt_add_one, Nat.succ_pos, hG]
  · simp (maxSteps := 4000000) (maxDischargeDepth := 8) only [not_false_eq_true, Nat.reduceAdd, DS.upd_get_ne, nextN, get_new_at, get_new_ne, good_new, eq_lt, Nat.add_assoc, Nat.lt_add_one, hG]
  · exact (Ext.new.trans' (Ext.new.trans' Ext.new)).trans (Ext.upd (F := [s.next + 2]) (.inl (by simp))) (by simp)
  · simp (maxSteps := 4000000) (maxDischargeDepth := 8) only [Nat.reduceAdd, DS.upd_next, nextN, Nat.add_assoc]
/-! ### Two things -/
section
variable {α β : Type}
/-- a pair: the cells of both -/
def repP (Ra : Nat → DS → Value → α → Prop) (Rb : Nat → DS → Value → β → Prop) (o : Nat) (s : DS) (v : Value) (x : α × β) : Prop := ∃ a b : Value, v = .agg ⟨a.cells.toList ++ b.cells.toList⟩ ∧ Ra o s a x.1 ∧ Rb o s b x.2
omit hC in
theorem repP_ok {α β : Type} {Ra : Nat → DS → Value → α → Prop} {Rb : Nat → DS → Value → β → Prop} (ha : RepOk Ra) (hb : RepOk Rb) : RepOk (repP Ra Rb) :=
  ⟨fun o s s' v x ⟨a, b, e, h1, h2⟩ hs => ⟨a, b, e, ha.stab _ _ _ _ _ h1 hs, hb.stab _ _ _ _ _ h2 hs⟩, fun o o' s v x ⟨a, b, e, h1, h2⟩ hs => ⟨a, b, e, ha.mono _ _ _ _ _ h1 hs, hb.mono _ _ _ _ _ h2 hs⟩⟩
end
theorem both59_put {f1 f2 : Nat} {fp fg gp gg : Value} {α β : Type} {n : Nat} {Df Dg : List (Nat × DObj)} {Ra : Nat → DS → Value → α → Prop} {Rb : Nat → DS → Value → β → Prop} {Oka : α → Prop} {Okb : β → Prop} {ea : α → List Int} {eb : β → List Int}
    (ha : PutS E n fp Df Ra Oka ea) (hb : PutS E n gp Dg Rb Okb eb) (sa : RepOk Ra) (sb : RepOk Rb) (ca : ∀ o s v x, Ra o s v x → (∃ n, v = .int .i64 n)) (cb : ∀ o s v x, Rb o s v x → (∃ n, v = .int .i64 n)) (hcode : E.fn 81 = some d81) (hintr : E.intr 81 = none) :
    PutS E (n + 1) (.func (.func 81) #[] #[.pointer (some ⟨f1, 0, none⟩), .pointer (some ⟨f2, 0, none⟩)]) ((f1, .cells (.list [fp, fg]) false) :: (f2, .cells (.list [gp, gg]) false) :: (Df ++ Dg)) (repP Ra Rb) (fun x => Oka x.1 ∧ Okb x.2) (fun x => ea x.1 ++ eb x.2) := by
  intro d s o bv bs v x hD hb2 h hG hv hx hlen
  obtain ⟨a, b, rfl, hra, hrb⟩ := hv
  have g1 := hD _ (List.mem_cons_self ..)
  have g2 := hD (f2, _) (List.mem_cons_of_mem _ (List.mem_cons_self ..))
  have l1 := hb2 _ (List.mem_cons_self ..)
  have l2 := hb2 (f2, _) (List.mem_cons_of_mem _ (List.mem_cons_self ..))
  simp only at g1 g2 l1 l2
  have hDf : Deps s Df := hD.sub fun p hp => List.mem_cons_of_mem _ (List.mem_cons_of_mem _ (List.mem_append_left _ hp))
  have hDg : Deps s Dg := hD.sub fun p hp => List.mem_cons_of_mem _ (List.mem_cons_of_mem _ (List.mem_append_right _ hp))
  have lf : ∀ p, p ∈ Df → p.1 < o := fun p hp => hb2 p (List.mem_cons_of_mem _ (List.mem_cons_of_mem _ (List.mem_append_left _ hp)))
  have lg : ∀ p, p ∈ Dg → p.1 < o := fun p hp => hb2 p (List.mem_cons_of_mem _ (List.mem_cons_of_mem _ (List.mem_append_right _ hp)))
  have hol := DS.get_lt' h.go
  have l1s : f1 < s.next := Nat.lt_trans l1 hol
  have l2s : f2 < s.next := Nat.lt_trans l2 hol
  rw [List.length_append] at hlen
  have hca := ca _ _ _ _ hra
  have hcb := cb _ _ _ _ hrb
  refine W_cps fun Q hQ => ?_
  show W (dcall E ((d + n) + 1) _ _ _) Q
  rw [W_enter hintr hcode rfl]
  obtain ⟨a, rfl⟩ := hca
  obtain ⟨b, rfl⟩ := hcb
  simp (maxSteps := 4000000) (maxDischargeDepth := 8) only [WC_seq, WC_region, contS_normal, contR_ap, WO_nil, WO_pp, contO_ap, atS_ap, W_some, W_mv, W_fadr, W_ld, W_box, W_call, dpure, ev_tmp, putT_some, get_put_eq, get_put_ne, not_false_eq_true, ofList_get, List.getElem?_cons_zero, List.getElem?_cons_succ, Option.getD_some, List.map_cons, List.map_nil, ldV_at, Cells.get, getN, cells_int, cells_agg, List.nil_append, List.cons_append, pp, pv, Nat.add_zero, get_new_at, get_new_ne, eq_lt, Nat.reduceLT, Nat.lt_add_one, Nat.succ_pos, d81, g1, g2, hG, l1s, l2s]
  obtain ⟨S1, hS1⟩ : ∃ S1 : DS, S1 = s.new (.cells (.list [.int .i64 a, .int .i64 b]) false) := ⟨_, rfl⟩
  rw [← hS1]
  have X1 : ∀ F, Ext F s S1 := fun F => by rw [hS1]; exact Ext.new
  have gS : S1.get s.next = some (.cells (.list [.int .i64 a, .int .i64 b]) false) := by rw [hS1]; exact DS.new_get_self hG
  have Y1 : Same o s S1 := fun k hk => (X1 []).get k (Nat.lt_trans hk hol) (by simp)
  have O1 : OutAt S1 o bv bs := ⟨(X1 []).keep h.go (by simp), (X1 []).wrs h.wo, h.sl.keep (X1 []) (by simp), h.up, h.len⟩
  refine W.mono (ha d S1 o bv bs _ x.1 (hDf.keep (X1 []) (by simp)) lf O1 ((X1 []).good hG) (sa.stab _ _ _ _ _ hra Y1) hx.1 (by omega)) ?_
  rintro ⟨v2, s2⟩ ⟨hv2, bv2, O2, X2, b2⟩
  simp only at hv2 O2 X2 b2
  have Y2 := same_of O1 X2
  have YY := Y1.trans Y2
  have gS2 := X2.keep gS (by
    simp only [List.mem_cons, not_or]
    exact ⟨by omega, fun hk => by have := h.sl.lt _ hk; omega⟩)
  have g22 := (YY f2 l2).trans g2
  simp (maxSteps := 4000000) only [WC_region, contS_normal, contR_ap, WO_nil, WO_pp, contO_ap, atS_ap, W_some, W_mv, W_fadr, W_ld, W_call, dpure, ev_tmp, putT_some, get_put_eq, get_put_ne, Nat.reduceEqDiff, not_false_eq_true, ofList_get, List.getElem?_cons_zero, List.getElem?_cons_succ, Option.getD_some, List.map_cons, List.map_nil, ldV_at, Cells.get, getN, Nat.zero_add, reduceCtorEq, Nat.add_zero, gS2, g22]
  refine W.mono (hb d s2 o bv2 (bs ++ ea x.1) _ x.2 (hDg.same lg YY) lg O2 (X2.good ((X1 []).good hG)) (sb.stab _ _ _ _ _ hrb YY) hx.2 (by rw [List.length_append]; omega)) ?_
  rintro ⟨v3, s3⟩ h3
  have hv3 := h3.val
  simp only at hv3
  subst hv3
  have X12 : Ext (o :: blk bv) s s2 := (X1 _).trans' X2
  have h4 := PutQ.next X12 (fun k hk => by
    rcases b2 k hk with h | h
    · exact .inl h
    · exact .inr (Nat.le_trans (X1 []).le h)) h3
  simp (maxSteps := 4000000) only [contR_ap, WO_nil, contO_ap, W_some, Ends_normal, putT_some, dresults, tupled]
  refine hQ _ ?_
  rw [← List.append_assoc]
  exact h4
theorem both56_put {f1 f2 : Nat} {fp fg gp gg : Value} {α β : Type} {n : Nat} {Df Dg : List (Nat × DObj)} {Ra : Nat → DS → Value → α → Prop} {Rb : Nat → DS → Value → β → Prop} {Oka : α → Prop} {Okb : β → Prop} {ea : α → List Int} {eb : β → List Int}
    (ha : PutS E n fp Df Ra Oka ea) (hb : PutS E n gp Dg Rb Okb eb) (sa : RepOk Ra) (sb : RepOk Rb) (ca : ∀ o s v x, Ra o s v x → (∃ n, v = .int .i64 n)) (cb : ∀ o s v x, Rb o s v x → (∃ b n c, v = .slice b n c)) (hcode : E.fn 76 = some d76) (hintr : E.intr 76 = none) :
    PutS E (n + 1) (.func (.func 76) #[] #[.pointer (some ⟨f1, 0, none⟩), .pointer (some ⟨f2, 0, none⟩)]) ((f1, .cells (.list [fp, fg]) false) :: (f2, .cells (.list [gp, gg]) false) :: (Df ++ Dg)) (repP Ra Rb) (fun x => Oka x.1 ∧ Okb x.2) (fun x => ea x.1 ++ eb x.2) := by
  intro d s o bv bs v x hD hb2 h hG hv hx hlen
  obtain ⟨a, b, rfl, hra, hrb⟩ := hv
  have g1 := hD _ (List.mem_cons_self ..)
  have g2 := hD (f2, _) (List.mem_cons_of_mem _ (List.mem_cons_self ..))
  have l1 := hb2 _ (List.mem_cons_self ..)
  have l2 := hb2 (f2, _) (List.mem_cons_of_mem _ (List.mem_cons_self ..))
  simp only at g1 g2 l1 l2
  have hDf : Deps s Df := hD.sub fun p hp => List.mem_cons_of_mem _ (List.mem_cons_of_mem _ (List.mem_append_left _ hp))
  have hDg : Deps s Dg := hD.sub fun p hp => List.mem_cons_of_mem _ (List.mem_cons_of_mem _ (List.mem_append_right _ hp))
  have lf : ∀ p, p ∈ Df → p.1 < o := fun p hp => hb2 p (List.mem_cons_of_mem _ (List.mem_cons_of_mem _ (List.mem_append_left _ hp)))
  have lg : ∀ p, p ∈ Dg → p.1 < o := fun p hp => hb2 p (List.mem_cons_of_mem _ (List.mem_cons_of_mem _ (List.mem_append_right _ hp)))
  have hol := DS.get_lt' h.go
  have l1s : f1 < s.next := Nat.lt_trans l1 hol
  have l2s : f2 < s.next := Nat.lt_trans l2 hol
  rw [List.length_append] at hlen
  have hca := ca _ _ _ _ hra
  have hcb := cb _ _ _ _ hrb
  refine W_cps fun Q hQ => ?_
  show W (dcall E ((d + n) + 1) _ _ _) Q
  rw [W_enter hintr hcode rfl]
  obtain ⟨a, rfl⟩ := hca
  obtain ⟨b1, b2, b3, rfl⟩ := hcb
  simp (maxSteps := 4000000) (maxDischargeDepth := 8) only [WC_seq, WC_region, contS_normal, contR_ap, WO_nil, WO_pp, contO_ap, atS_ap, W_some, W_mv, W_fadr, W_ld, W_box, W_call, dpure, ev_tmp, putT_some, get_put_eq, get_put_ne, not_false_eq_true, ofList_get, List.getElem?_cons_zero, List.getElem?_cons_succ, Option.getD_some, List.map_cons, List.map_nil, ldV_at, Cells.get, getN, cells_int, cells_slice, cells_agg, List.nil_append, List.cons_append, pp, pv, Nat.add_zero, get_new_at, get_new_ne, eq_lt, Nat.reduceLT, Nat.lt_add_one, Nat.succ_pos, d76, g1, g2, hG, l1s, l2s]
  obtain ⟨S1, hS1⟩ : ∃ S1 : DS, S1 = s.new (.cells (.list [.int .i64 a, .slice b1 b2 b3]) false) := ⟨_, rfl⟩
  rw [← hS1]
  have X1 : ∀ F, Ext F s S1 := fun F => by rw [hS1]; exact Ext.new
  have gS : S1.get s.next = some (.cells (.list [.int .i64 a, .slice b1 b2 b3]) false) := by rw [hS1]; exact DS.new_get_self hG
  have Y1 : Same o s S1 := fun k hk => (X1 []).get k (Nat.lt_trans hk hol) (by simp)
  have O1 : OutAt S1 o bv bs := ⟨(X1 []).keep h.go (by simp), (X1 []).wrs h.wo, h.sl.keep (X1 []) (by simp), h.up, h.len⟩
  refine W.mono (ha d S1 o bv bs _ x.1 (hDf.keep (X1 []) (by simp)) lf O1 ((X1 []).good hG) (sa.stab _ _ _ _ _ hra Y1) hx.1 (by omega)) ?_
  rintro ⟨v2, s2⟩ ⟨hv2, bv2, O2, X2, b2⟩
  simp only at hv2 O2 X2 b2
  have Y2 := same_of O1 X2
  have YY := Y1.trans Y2
  have gS2 := X2.keep gS (by
    simp only [List.mem_cons, not_or]
    exact ⟨by omega, fun hk => by have := h.sl.lt _ hk; omega⟩)
  have g22 := (YY f2 l2).trans g2
  simp (maxSteps := 4000000) only [WC_region, contS_normal, contR_ap, WO_nil, WO_pp, contO_ap, atS_ap, W_some, W_mv, W_fadr, W_ld, W_call, dpure, ev_tmp, putT_some, get_put_eq, get_put_ne, Nat.reduceEqDiff, not_false_eq_true, ofList_get, List.getElem?_cons_zero, List.getElem?_cons_succ, Option.getD_some, List.map_cons, List.map_nil, ldV_at, Cells.get, getN, Nat.zero_add, reduceCtorEq, Nat.add_zero, gS2, g22]
  refine W.mono (hb d s2 o bv2 (bs ++ ea x.1) _ x.2 (hDg.same lg YY) lg O2 (X2.good ((X1 []).good hG)) (sb.stab _ _ _ _ _ hrb YY) hx.2 (by rw [List.length_append]; omega)) ?_
  rintro ⟨v3, s3⟩ h3
  have hv3 := h3.val
  simp only at hv3
  subst hv3
  have X12 : Ext (o :: blk bv) s s2 := (X1 _).trans' X2
  have h4 := PutQ.next X12 (fun k hk => by
    rcases b2 k hk with h | h
    · exact .inl h
    · exact .inr (Nat.le_trans (X1 []).le h)) h3
  simp (maxSteps := 4000000) only [contR_ap, WO_nil, contO_ap, W_some, Ends_normal, putT_some, dresults, tupled]
  refine hQ _ ?_
  rw [← List.append_assoc]
  exact h4
/-! ### Lists -/
/-- a slice of rows, each a thing -/
def repL {α : Type} (sz : Nat) (R : Nat → DS → Value → α → Prop) (o : Nat) (s : DS) (v : Value) (xs : List α) : Prop := ∃ l : List (List Value), l.length = xs.length ∧ RowsOk sz l ∧ ((v = .slice none 0 0 ∧ l = []) ∨ ∃ b off sp c, v = .slice (some ⟨b, off, sp⟩) l.length c ∧ b < o ∧ s.read b off (l.length * sz) = some l.flatten) ∧ ∀ (i : Nat) (r : List Value) (x : α), l[i]? = some r → xs[i]? = some x → R o s (.agg ⟨r⟩) x
omit hC in
theorem repL_ok {α : Type} {sz : Nat} {R : Nat → DS → Value → α → Prop} (h : RepOk R) : RepOk (repL sz R) := ⟨fun o s s' v xs ⟨l, h1, h2, h3, h4⟩ hs => ⟨l, h1, h2, by
  rcases h3 with h3 | ⟨b, off, sp, c, e1, e2, e3⟩
  · exact .inl h3
  · refine .inr ⟨b, off, sp, c, e1, e2, ?_⟩
    unfold DS.read at e3 ⊢
    rw [hs b e2]; exact e3, fun i r x hr hx => h.stab _ _ _ _ _ (h4 i r x hr hx) hs⟩, fun o o' s v xs ⟨l, h1, h2, h3, h4⟩ hs => ⟨l, h1, h2, by
  rcases h3 with h3 | ⟨b, off, sp, c, e1, e2, e3⟩
  · exact .inl h3
  · exact .inr ⟨b, off, sp, c, e1, Nat.lt_of_lt_of_le e2 hs, e3⟩, fun i r x hr hx => h.mono _ _ _ _ _ (h4 i r x hr hx) hs⟩⟩
def catE {α : Type} (e : α → List Int) (xs : List α) : List Int := xs.flatMap e
structure ManyI58 {α : Type} (s0 : DS) (o c1 f1 : Nat) (bv v : Value) (bs : List Int) (e : α → List Int) (xs : List α) (n : Nat) (y : St) : Prop where
  ex : ∃ j : Nat, n = xs.length - j ∧ j ≤ xs.length ∧ y.defers = [] ∧ (y.t.get 0 = some (.pointer (some ⟨o, 0, none⟩)) ∧ y.t.get 1 = some v ∧ y.t.get 3 = some (.pointer (some ⟨f1, 0, none⟩)) ∧ y.t.get 6 = some (.int .i64 (j : Int))) ∧
    y.s.Good ∧ PutQ s0 o bv (bs ++ catE e (xs.take j)) (.tuple #[], y.s)
theorem many58_put {c1 f1 : Nat} {cp cg fp fg : Value} {α : Type} {n : Nat} {Dc Df : List (Nat × DObj)} {R : Nat → DS → Value → α → Prop} {Ok : α → Prop} {e : α → List Int}
    (hc : PutS E n cp Dc repI (okNum 2 4096) (fun x => leB x 2)) (hf : PutS E n fp Df R Ok e) (sR : RepOk R) (hcode : E.fn 79 = some d79) (hintr : E.intr 79 = none) :
    PutS E (n + 1) (.func (.func 79) #[] #[.pointer (some ⟨c1, 0, none⟩), .pointer (some ⟨f1, 0, none⟩)]) ((c1, .cells (.list [cp, cg]) false) :: (f1, .cells (.list [fp, fg]) false) :: (Dc ++ Df)) (repL 2 R) (fun xs => xs.length ≤ 4096 ∧ ∀ x, x ∈ xs → Ok x) (fun xs => leB xs.length 2 ++ catE e xs) := by
  intro d s o bv bs v xs hD hb2 h hG hv hx hlen
  have g1 := hD _ (List.mem_cons_self ..)
  have g2 := hD (f1, _) (List.mem_cons_of_mem _ (List.mem_cons_self ..))
  have l1 := hb2 _ (List.mem_cons_self ..)
  have l2 := hb2 (f1, _) (List.mem_cons_of_mem _ (List.mem_cons_self ..))
  simp only at g1 g2 l1 l2
  have hDc : Deps s Dc := hD.sub fun p hp => List.mem_cons_of_mem _ (List.mem_cons_of_mem _ (List.mem_append_left _ hp))
  have hDf : Deps s Df := hD.sub fun p hp => List.mem_cons_of_mem _ (List.mem_cons_of_mem _ (List.mem_append_right _ hp))
  have lc : ∀ p, p ∈ Dc → p.1 < o := fun p hp => hb2 p (List.mem_cons_of_mem _ (List.mem_cons_of_mem _ (List.mem_append_left _ hp)))
  have lf : ∀ p, p ∈ Df → p.1 < o := fun p hp => hb2 p (List.mem_cons_of_mem _ (List.mem_cons_of_mem _ (List.mem_append_right _ hp)))
  have hol := DS.get_lt' h.go
  have hlf := hC.lf
  have hvl : ∃ a c, v = .slice a xs.length c := by
    obtain ⟨l, h1, _, h3 | ⟨b, off, sp, c, e1, _⟩, _⟩ := hv
    · obtain ⟨rfl, rfl⟩ := h3
      rw [← h1]; exact ⟨none, 0, rfl⟩
    · rw [← h1]; exact ⟨_, c, e1⟩
  obtain ⟨va, vc, hvv⟩ := hvl
  rw [List.length_append, leB_len] at hlen
  refine W_cps fun Q hQ => ?_
  show W (dcall E ((d + n) + 1) _ _ _) Q
  rw [W_enter hintr hcode rfl]
  subst hvv
  simp (maxSteps := 4000000) only [WC_seq, WC_region, WO_pp, contO_ap, atS_ap, W_some, W_mv, W_fadr, W_blenL, W_ld, W_call, dpure, ev_tmp, putT_some, get_put_eq, get_put_ne, Nat.reduceEqDiff, not_false_eq_true, ofList_get, List.getElem?_cons_zero, List.getElem?_cons_succ, Option.getD_some, List.map_cons, List.map_nil, ldV_at, Cells.get, getN, reduceCtorEq, List.nil_append, List.cons_append, pp, pv, pw, pg, Nat.add_zero, d79, g1]
  refine W.mono (hc d s o bv bs _ (xs.length : Int) hDc lc h hG rfl (.inr ⟨by omega, by omega⟩) (by rw [leB_len]; omega)) ?_
  rintro ⟨v2, s2⟩ h2
  have hv2 := h2.val
  simp only at hv2
  subst hv2
  simp (maxSteps := 4000000) only [WC_seq, WC_region, WC_block, contS_normal, contR_ap, WO_nil, WO_pp, contO_ap, W_mv, ev_const, putT_some]
  have hG2 : s2.Good := by obtain ⟨_, _, _, X, _⟩ := h2; exact X.good hG
  refine WC_loop (ManyI58 s o c1 f1 bv (.slice va xs.length vc) (bs ++ leB xs.length 2) e xs) xs.length (by omega) ⟨0, rfl, Nat.zero_le _, rfl, ?_, hG2, by simpa [catE] using h2⟩ ?_
  · simp (maxSteps := 4000000) only [get_put_eq, get_put_ne, Nat.reduceEqDiff, not_false_eq_true, ofList_get, List.getElem?_cons_zero, List.getElem?_cons_succ, Bool.true_and, true_and, reduceCtorEq]
    rfl
  rintro m ⟨t, s3, ds⟩ hm ⟨j, rfl, hj, hds, ⟨g0, gv, g3, g6⟩, hG3, ⟨_, bv3, O3, X3, b3⟩⟩
  simp only at hds g0 gv g3 g6 hG3 O3 X3 b3
  subst hds
  have Y3 := same_of h X3
  by_cases c2 : j < xs.length
  · have hx0 : xs[j]? = some xs[j] := List.getElem?_eq_getElem c2
    generalize xs[j] = x0 at hx0
    obtain ⟨l, hl1, hl2, hl3, hl4⟩ := (repL_ok (sz := 2) sR).stab _ _ _ _ _ hv Y3
    have hr0 : l[j]? = some l[j] := List.getElem?_eq_getElem (by omega)
    generalize l[j] = r0 at hr0
    rcases hl3 with ⟨h8, h9⟩ | ⟨b, off, sp, c, h8, h9, h10⟩
    · rw [h9] at hl1; simp at hl1; omega
    rw [hl1] at h8
    cases h8
    have hld : ldA 2 (.pointer (some ⟨b, off + j * 2, none⟩)) s3 = some (.agg ⟨r0⟩) := by
      unfold ldA
      simp only [row_read h10 hl2.len hr0]
    have e1 : (j : Int) < (xs.length : Int) := by omega
    have go3 := O3.go
    have g23 := (Y3 f1 l2).trans g2
    have w1 : dwrap .i64 ((j : Int) + 1) = ((j + 1 : Nat) : Int) := by rw [dwrap_in (by omega) (by omega)]; omega
    simp (maxSteps := 4000000) (maxDischargeDepth := 8) only [WC_seq, WC_region, WC_cond, WC_block, WC_skip, contS_normal, contR_ap, WO_nil, WO_pp, WO_g, gateO_tt, condC_true, contO_ap, atS_ap, W_some, W_mv, W_pick, W_bin, W_nilck, W_fadr, W_ixL, W_blenL, W_ld, W_call, dpure, dbin, dint, ev_tmp, ev_const, putT_some, get_put_eq, get_put_ne, not_false_eq_true, Option.getD_some, List.map_cons, List.map_nil, ldV_at, Cells.get, getN, Nat.zero_add, Nat.blt_eq, if_true, W_ldA, Nat.add_zero, asIdx_cast, decide_true, eq_lt, Nat.reduceLT, Nat.lt_add_one, Nat.succ_pos, g0, gv, g3, g6, e1, go3, c2, g23, hld]
    have hcat : catE e (xs.take (j + 1)) = catE e (xs.take j) ++ e x0 := by
      unfold catE
      rw [List.take_add_one, List.flatMap_append]
      simp [hx0]
    have hle : (catE e (xs.take (j + 1))).length ≤ (catE e xs).length := by
      unfold catE
      have : xs = xs.take (j + 1) ++ xs.drop (j + 1) := (List.take_append_drop _ _).symm
      conv => rhs; rw [this, List.flatMap_append, List.length_append]
      exact Nat.le_add_right _ _
    refine W.mono (hf d s3 o bv3 _ _ x0 (hDf.same lf Y3) lf O3 hG3 (hl4 j r0 x0 hr0 hx0) (hx.2 _ (List.mem_of_getElem? hx0)) ?_) ?_
    · rw [hcat] at hle
      simp only [List.length_append, leB_len] at hle ⊢
      omega
    rintro ⟨v4, s4⟩ h4
    have hv4 := h4.val
    simp only at hv4
    subst hv4
    have hG4 : s4.Good := by obtain ⟨_, _, _, X, _⟩ := h4; exact X.good hG3
    simp (maxSteps := 4000000) (maxDischargeDepth := 8) only [WC_region, contS_normal, contB_normal, contR_ap, contL_normal, WO_nil, WO_pp, contO_ap, atS_ap, W_some, W_mv, W_bin, dbin, dint, ev_tmp, ev_const, putT_some, get_put_eq, get_put_ne, not_false_eq_true, Option.getD_some, if_true, eq_lt, Nat.reduceLT, g0, gv, g3, g6, w1]
    refine ⟨xs.length - (j + 1), by omega, ⟨j + 1, rfl, by omega, rfl, by simp (maxSteps := 4000000) only [get_put_eq, get_put_ne, Nat.reduceEqDiff, not_false_eq_true, Bool.and_self, and_self, reduceCtorEq, g0, gv, g3, g6], hG4, ?_⟩⟩
    rw [hcat, ← List.append_assoc]
    exact PutQ.next X3 b3 h4
  · obtain rfl : j = xs.length := by omega
    have e1 : ¬ (xs.length : Int) < (xs.length : Int) := by omega
    simp (maxSteps := 4000000) only [WC_seq, WC_region, WC_cond, WC_exit, contS_normal, contS_exit, contB_exit, contR_ap, contL_exit, WO_nil, WO_pp, WO_g, gateO_ft, condC_false, contO_ap, atS_ap, W_some, W_mv, W_pick, W_bin, W_blenL, dpure, dbin, dint, Ends_normal, ev_tmp, ev_const, putT_some, get_put_eq, get_put_ne, Nat.reduceEqDiff, not_false_eq_true, Option.getD_some, dresults, tupled, if_true, if_false, Bool.false_eq_true, List.nil_append, decide_false, g0, gv, g3, g6, e1]
    refine hQ _ ⟨rfl, ?_⟩
    rw [List.take_length, List.append_assoc] at O3
    exact ⟨bv3, O3, X3, b3⟩
/-! ### Fields that are made -/
theorem num_field (hG : s.Good) {m : Nat} (hm : m ≤ s.next) {size : Nat} (hs : size ≤ 8) (most : Int) :
    W (dcall E (d + 1) (.func (.func 78) #[] #[]) [.int .i64 (size : Int), .int .i64 most] s) fun r => FieldOk E 3 m r.2 r.1 repI (okNum size most) (fun x => leB x size) ∧ Ext [] s r.2 := by
  refine W.mono (num_ok hC hG (size : Int) most) ?_
  rintro ⟨v, s1⟩ ⟨hv, g1, g2, X, hn⟩
  simp only at hv g1 g2 X hn
  refine ⟨⟨_, _, _, _, _, _, _, hv, fun p hp => ?_, fun p hp => ?_, num_put hC hs⟩, X⟩
  · rcases List.mem_cons.1 hp with rfl | hp
    · exact g1
    · rcases List.mem_cons.1 hp with rfl | hp
      · exact g2
      · cases hp
  · rcases List.mem_cons.1 hp with rfl | hp
    · show m ≤ s.next ∧ s.next < s1.next; omega
    · rcases List.mem_cons.1 hp with rfl | hp
      · show m ≤ s.next + 1 ∧ s.next + 1 < s1.next; omega
      · cases hp
theorem both59_field {α β : Type} {n m : Nat} (hm : m ≤ s.next) {va vb : Value} {Ra : Nat → DS → Value → α → Prop} {Rb : Nat → DS → Value → β → Prop} {Oka : α → Prop} {Okb : β → Prop} {ea : α → List Int} {eb : β → List Int}
    (hG : s.Good) (ha : FieldOk E n m s va Ra Oka ea) (hb : FieldOk E n m s vb Rb Okb eb) (hcode : E.fn 59 = some d59) (hintr : E.intr 59 = none)
    (hput : ∀ {f1 f2 : Nat} {fp fg gp gg : Value} {Df Dg : List (Nat × DObj)}, PutS E n fp Df Ra Oka ea → PutS E n gp Dg Rb Okb eb → PutS E (n + 1) (.func (.func 81) #[] #[.pointer (some ⟨f1, 0, none⟩), .pointer (some ⟨f2, 0, none⟩)]) ((f1, .cells (.list [fp, fg]) false) :: (f2, .cells (.list [gp, gg]) false) :: (Df ++ Dg)) (repP Ra Rb) (fun x => Oka x.1 ∧ Okb x.2) (fun x => ea x.1 ++ eb x.2)) :
    W (dcall E (d + 1) (.func (.func 59) #[] #[]) [va, vb] s) fun r => FieldOk E (n + 1) m r.2 r.1 (repP Ra Rb) (fun x => Oka x.1 ∧ Okb x.2) (fun x => ea x.1 ++ eb x.2) ∧ Ext [] s r.2 := by
  obtain ⟨f1, a1, b1, g1, p1, q1, D1, rfl, h2, h3, h4⟩ := ha
  obtain ⟨f2, a2, b2, g2, p2, q2, D2, rfl, k2, k3, k4⟩ := hb
  refine W_cps fun Q hQ => ?_
  rw [W_enter0 hintr hcode rfl]
  simp (maxSteps := 4000000) (maxDischargeDepth := 8) only [WC_seq, WC_region, WC_cond, WC_skip, WC_ret, contS_normal, contR_ap, WO_nil, WO_pp, WO_g, gateO_ff, condC_false, contO_ap, atS_ap, atD_ap, atG_ap, atB_ap, W_some, W_mv, W_pick, W_eq1, W_build, W_mkf, W_fadr, W_ld, W_st, W_alloc, W_box, dpure, dread, eqOne, Ends_ret, ev_tmp, ev_const, putT_some, putT_none, get_put_eq, get_put_ne, not_false_eq_true, ofList_get, List.getElem?_cons_zero, List.getElem?_cons_succ, Option.getD_some, dresults, tupled, List.map_cons, List.map_nil, ldV_at, Cells.get, getN, Nat.zero_add, Nat.reduceAdd, st_wr, cells_func, cells_agg, List.length_cons, List.length_nil, allOne, oneCellD, Bool.and_self, Bool.and_true, Bool.and_eq_true, Nat.beq_eq, Nat.ble_eq, Nat.reduceLeDiff, Nat.le_refl, and_self, if_true, if_false, Bool.not_false, Bool.false_eq_true, DS.wrC, Cells.size, Cells.fillFrom, Cells.set, setN, fillParts, List.take_zero, List.take_succ_cons, List.drop_succ_cons, List.drop_zero, List.nil_append, List.cons_append, List.drop_nil, List.append_nil, pp, pv, pg, DS.upd_get_self, Option.map_some, nextN, wrN, Nat.add_zero, DS.read, Cells.take, get_new_at, get_new_ne, good_new, good_at, eq_lt, lt_add_s, Nat.add_assoc, Nat.reduceLT, Nat.lt_add_one, Nat.succ_pos, d59, hG]
  have X : ∀ o1 o2 o3 o4, Ext [] s ((((s.new o1).new o2).new o3).upd (s.next + 2) o4) := fun _ _ _ _ => (Ext.new.trans' (Ext.new.trans' Ext.new)).trans (Ext.upd (F := [s.next + 2]) (.inl (by simp))) (by simp)
  refine hQ _ ⟨⟨_, _, _, _, _, _, _, rfl, ?_, ?_, hput (f1 := s.next) (f2 := s.next + 1) (fg := .func (.func g1) p1 q1) (gg := .func (.func g2) p2 q2) h4 k4⟩, X _ _ _ _⟩
  · intro p hp
    rcases List.mem_cons.1 hp with rfl | hp
    · simp (maxSteps := 4000000) (maxDischargeDepth := 8) only [not_false_eq_true, Nat.reduceAdd, DS.upd_get_ne, nextN, get_new_at, get_new_ne, good_new, eq_lt, lt_add_s, Nat.add_assoc, Nat.lt_add_one, Nat.succ_pos, hG]
    · rcases List.mem_cons.1 hp with rfl | hp
      · simp (maxSteps := 4000000) (maxDischargeDepth := 8) only [not_false_eq_true, Nat.reduceAdd, DS.upd_get_ne, nextN, get_new_at, get_new_ne, good_new, eq_lt, Nat.add_assoc, Nat.lt_add_one, hG]
      · rcases List.mem_append.1 hp with hp | hp
        · exact (X _ _ _ _).keep (h2 p hp) (by simp)
        · exact (X _ _ _ _).keep (k2 p hp) (by simp)
  · intro p hp
    have hn : ∀ o1 o2 o3 o4, ((((s.new o1).new o2).new o3).upd (s.next + 2) o4).next = s.next + 3 := fun _ _ _ _ => by simp (maxSteps := 4000000) (maxDischargeDepth := 8) only [Nat.reduceAdd, DS.upd_next, nextN, Nat.add_assoc]
    rw [hn]
    rcases List.mem_cons.1 hp with rfl | hp
    · show m ≤ s.next ∧ s.next < s.next + 3; omega
    · rcases List.mem_cons.1 hp with rfl | hp
      · show m ≤ s.next + 1 ∧ s.next + 1 < s.next + 3; omega
      · rcases List.mem_append.1 hp with hp | hp
        · have := h3 p hp; omega
        · have := k3 p hp; omega
theorem both56_field {α β : Type} {n m : Nat} (hm : m ≤ s.next) {va vb : Value} {Ra : Nat → DS → Value → α → Prop} {Rb : Nat → DS → Value → β → Prop} {Oka : α → Prop} {Okb : β → Prop} {ea : α → List Int} {eb : β → List Int}
    (hG : s.Good) (ha : FieldOk E n m s va Ra Oka ea) (hb : FieldOk E n m s vb Rb Okb eb) (hcode : E.fn 56 = some d56) (hintr : E.intr 56 = none)
    (hput : ∀ {f1 f2 : Nat} {fp fg gp gg : Value} {Df Dg : List (Nat × DObj)}, PutS E n fp Df Ra Oka ea → PutS E n gp Dg Rb Okb eb → PutS E (n + 1) (.func (.func 76) #[] #[.pointer (some ⟨f1, 0, none⟩), .pointer (some ⟨f2, 0, none⟩)]) ((f1, .cells (.list [fp, fg]) false) :: (f2, .cells (.list [gp, gg]) false) :: (Df ++ Dg)) (repP Ra Rb) (fun x => Oka x.1 ∧ Okb x.2) (fun x => ea x.1 ++ eb x.2)) :
    W (dcall E (d + 1) (.func (.func 56) #[] #[]) [va, vb] s) fun r => FieldOk E (n + 1) m r.2 r.1 (repP Ra Rb) (fun x => Oka x.1 ∧ Okb x.2) (fun x => ea x.1 ++ eb x.2) ∧ Ext [] s r.2 := by
  obtain ⟨f1, a1, b1, g1, p1, q1, D1, rfl, h2, h3, h4⟩ := ha
  obtain ⟨f2, a2, b2, g2, p2, q2, D2, rfl, k2, k3, k4⟩ := hb
  refine W_cps fun Q hQ => ?_
  rw [W_enter0 hintr hcode rfl]
  simp (maxSteps := 4000000) (maxDischargeDepth := 8) only [WC_seq, WC_region, WC_cond, WC_skip, WC_ret, contS_normal, contR_ap, WO_nil, WO_pp, WO_g, gateO_ff, condC_false, contO_ap, atS_ap, atD_ap, atG_ap, atB_ap, W_some, W_mv, W_pick, W_eq1, W_build, W_mkf, W_fadr, W_ld, W_st, W_alloc, W_box, dpure, dread, eqOne, Ends_ret, ev_tmp, ev_const, putT_some, putT_none, get_put_eq, get_put_ne, not_false_eq_true, ofList_get, List.getElem?_cons_zero, List.getElem?_cons_succ, Option.getD_some, dresults, tupled, List.map_cons, List.map_nil, ldV_at, Cells.get, getN, Nat.zero_add, Nat.reduceAdd, st_wr, cells_func, cells_agg, List.length_cons, List.length_nil, allOne, oneCellD, Bool.and_self, Bool.and_true, Bool.and_eq_true, Nat.beq_eq, Nat.ble_eq, Nat.reduceLeDiff, Nat.le_refl, and_self, if_true, if_false, Bool.not_false, Bool.false_eq_true, DS.wrC, Cells.size, Cells.fillFrom, Cells.set, setN, fillParts, List.take_zero, List.take_succ_cons, List.drop_succ_cons, List.drop_zero, List.nil_append, List.cons_append, List.drop_nil, List.append_nil, pp, pv, pg, DS.upd_get_self, Option.map_some, nextN, wrN, Nat.add_zero, DS.read, Cells.take, get_new_at, get_new_ne, good_new, good_at, eq_lt, lt_add_s, Nat.add_assoc, Nat.reduceLT, Nat.lt_add_one, Nat.succ_pos, d56, hG]
  have X : ∀ o1 o2 o3 o4, Ext [] s ((((s.new o1).new o2).new o3).upd (s.next + 2) o4) := fun _ _ _ _ => (Ext.new.trans' (Ext.new.trans' Ext.new)).trans (Ext.upd (F := [s.next + 2]) (.inl (by simp))) (by simp)
  refine hQ _ ⟨⟨_, _, _, _, _, _, _, rfl, ?_, ?_, hput (f1 := s.next) (f2 := s.next + 1) (fg := .func (.func g1) p1 q1) (gg := .func (.func g2) p2 q2) h4 k4⟩, X _ _ _ _⟩
  · intro p hp
    rcases List.mem_cons.1 hp with rfl | hp
    · simp (maxSteps := 4000000) (maxDischargeDepth := 8) only [not_false_eq_true, Nat.reduceAdd, DS.upd_get_ne, nextN, get_new_at, get_new_ne, good_new, eq_lt, lt_add_s, Nat.add_assoc, Nat.lt_add_one, Nat.succ_pos, hG]
    · rcases List.mem_cons.1 hp with rfl | hp
      · simp (maxSteps := 4000000) (maxDischargeDepth := 8) only [not_false_eq_true, Nat.reduceAdd, DS.upd_get_ne, nextN, get_new_at, get_new_ne, good_new, eq_lt, Nat.add_assoc, Nat.lt_add_one, hG]
      · rcases List.mem_append.1 hp with hp | hp
        · exact (X _ _ _ _).keep (h2 p hp) (by simp)
        · exact (X _ _ _ _).keep (k2 p hp) (by simp)
  · intro p hp
    have hn : ∀ o1 o2 o3 o4, ((((s.new o1).new o2).new o3).upd (s.next + 2) o4).next = s.next + 3 := fun _ _ _ _ => by simp (maxSteps := 4000000) (maxDischargeDepth := 8) only [Nat.reduceAdd, DS.upd_next, nextN, Nat.add_assoc]
    rw [hn]
    rcases List.mem_cons.1 hp with rfl | hp
    · show m ≤ s.next ∧ s.next < s.next + 3; omega
    · rcases List.mem_cons.1 hp with rfl | hp
      · show m ≤ s.next + 1 ∧ s.next + 1 < s.next + 3; omega
      · rcases List.mem_append.1 hp with hp | hp
        · have := h3 p hp; omega
        · have := k3 p hp; omega
theorem many58_field {α : Type} {n m : Nat} (hm : m ≤ s.next) {v : Value} {R : Nat → DS → Value → α → Prop} {Ok : α → Prop} {e : α → List Int}
    (hG : s.Good) (ha : FieldOk E n m s v R Ok e) (hn : 3 ≤ n) (sR : RepOk R) (hcode : E.fn 58 = some d58) (hintr : E.intr 58 = none) (hcode1 : E.fn 79 = some d79) (hintr1 : E.intr 79 = none) :
    W (dcall E (d + 2) (.func (.func 58) #[] #[]) [v] s) fun r => FieldOk E (n + 1) m r.2 r.1 (repL 2 R) (fun xs => xs.length ≤ 4096 ∧ ∀ x, x ∈ xs → Ok x) (fun xs => leB xs.length 2 ++ catE e xs) ∧ Ext [] s r.2 := by
  obtain ⟨f1, a1, b1, g1, p1, q1, D1, rfl, h2, h3, h4⟩ := ha
  refine W_cps fun Q hQ => ?_
  rw [W_enter0 hintr hcode rfl]
  simp (maxSteps := 4000000) (maxDischargeDepth := 8) only [WC_seq, WC_region, WC_cond, WC_skip, contS_normal, contR_ap, WO_nil, WO_pp, condC_false, contO_ap, atS_ap, atB_ap, W_some, W_eq1, W_fadr, W_ld, W_alloc, W_box, W_call, dpure, eqOne, ev_tmp, ev_const, ev_func, putT_some, get_put_eq, get_put_ne, not_false_eq_true, ofList_get, List.getElem?_cons_zero, Option.getD_some, List.map_cons, List.map_nil, ldV_at, Cells.get, getN, cells_agg, if_false, Bool.not_false, Bool.false_eq_true, pp, nextN, Nat.add_zero, get_new_at, get_new_ne, good_new, eq_lt, Nat.lt_add_one, d58, hG]
  obtain ⟨S, hS⟩ : ∃ S : DS, S = (s.new (.cells (.list [.func (.func f1) a1 b1, .func (.func g1) p1 q1]) false)).new (.cells (.list [.nilFunc, .nilFunc]) false) := ⟨_, rfl⟩
  rw [← hS]
  have XS : Ext [] s S := by rw [hS]; exact Ext.new.trans' Ext.new
  have nS : S.next = s.next + 2 := by rw [hS]; simp (maxSteps := 4000000) (maxDischargeDepth := 8) only [Nat.reduceAdd, nextN, Nat.add_assoc]
  have hGS := XS.good hG
  have S0 : S.get s.next = some (.cells (.list [.func (.func f1) a1 b1, .func (.func g1) p1 q1]) false) := by rw [hS]; simp (maxSteps := 4000000) (maxDischargeDepth := 8) only [nextN, get_new_at, get_new_ne, good_new, Nat.lt_add_one, hG]
  have S1 : S.get (s.next + 1) = some (.cells (.list [.nilFunc, .nilFunc]) false) := by rw [hS]; simp (maxSteps := 4000000) (maxDischargeDepth := 8) only [nextN, get_new_at, good_new, hG]
  have wS : S.wr (s.next + 1) = true := XS.wrs (hG _ (by omega)).2
  refine W.mono (num_ok hC hGS 2 4096) ?_
  rintro ⟨v2, s2⟩ ⟨hv2, n1, n2, X2, hn2⟩
  simp only at hv2 n1 n2 X2 hn2
  subst hv2
  have hG2 := X2.good hGS
  have T1 := X2.keep S1 (by simp)
  have wT := X2.wrs wS
  have hlt : s.next + 1 < s2.next := by omega
  rw [nS] at n1 n2 hn2 ⊢
  simp (maxSteps := 4000000) (maxDischargeDepth := 8) only [WC_seq, WC_region, WC_ret, contS_normal, contR_ap, WO_nil, WO_pp, contO_ap, atD_ap, atG_ap, W_some, W_build, W_mkf, W_st, W_alloc, dread, Ends_ret, ev_tmp, putT_some, putT_none, get_put_eq, get_put_ne, not_false_eq_true, Option.getD_some, dresults, tupled, List.map_cons, List.map_nil, Cells.get, getN, Nat.zero_add, Nat.reduceAdd, st_wr, cells_func, cells_agg, List.length_cons, List.length_nil, allOne, oneCellD, Bool.and_self, Bool.and_true, Bool.and_eq_true, Nat.beq_eq, Nat.ble_eq, Nat.reduceLeDiff, Nat.le_refl, and_self, if_true, DS.wrC, Cells.size, Cells.fillFrom, Cells.set, setN, fillParts, List.take_zero, List.take_succ_cons, List.drop_succ_cons, List.drop_zero, List.nil_append, List.cons_append, List.drop_nil, List.append_nil, DS.upd_get_self, DS.upd_get_ne, DS.upd_wr, Option.map_some, wrN, DS.read, Cells.take, get_new_at, get_new_ne, good_new, DS.upd_good, good_at, eq_lt, eq_gt, Nat.add_assoc, Nat.reduceLT, Nat.lt_add_one, hG2, T1, wT, hlt]
  refine hQ _ ⟨⟨_, _, _, _, _, _, (s2.next, .cells (.list [.func (.func 92) #[] #[.pointer (some ⟨s.next + 2, 0, none⟩), .pointer (some ⟨s.next + 3, 0, none⟩)], .func (.func 94) #[] #[.pointer (some ⟨s.next + 2, 0, none⟩), .pointer (some ⟨s.next + 3, 0, none⟩)]]) false) :: (s.next, .cells (.list [.func (.func f1) a1 b1, .func (.func g1) p1 q1]) false) :: ([(s.next + 2, .cells (.list [.int .i64 ((2 : Nat) : Int)]) false), (s.next + 3, .cells (.list [.int .i64 4096]) false)] ++ D1), rfl, ?_, ?_, many58_put hC ((num_put hC (b1 := s.next + 2) (b2 := s.next + 3) (size := 2) (most := 4096) (by omega)).mono hn) h4 sR hcode1 hintr1⟩, ?_⟩
  · intro p hp
    rcases List.mem_cons.1 hp with rfl | hp
    · simp (maxSteps := 4000000) (maxDischargeDepth := 8) only [not_false_eq_true, DS.upd_get_self, DS.upd_get_ne, Option.map_some, get_new_at, hG2, show ¬ s2.next = s.next + 1 by omega]
    · rcases List.mem_cons.1 hp with rfl | hp
      · simp (maxSteps := 4000000) (maxDischargeDepth := 8) only [not_false_eq_true, DS.upd_get_ne, get_new_ne, eq_lt, Nat.lt_add_one, hG2, show ¬ s.next = s2.next by omega, show s.next < s2.next by omega, X2.keep S0 (by simp)]
      · rcases List.mem_append.1 hp with hp | hp
        · rcases List.mem_cons.1 hp with rfl | hp
          · simp (maxSteps := 4000000) (maxDischargeDepth := 8) only [not_false_eq_true, DS.upd_get_ne, get_new_ne, eq_gt, Nat.lt_add_one, hG2, show ¬ s.next + 2 = s2.next by omega, show s.next + 2 < s2.next by omega, n1]
            rfl
          · rcases List.mem_cons.1 hp with rfl | hp
            · simp (maxSteps := 4000000) (maxDischargeDepth := 8) only [not_false_eq_true, DS.upd_get_ne, get_new_ne, eq_gt, Nat.reduceLT, Nat.add_lt_add_iff_left, hG2, show ¬ s.next + 3 = s2.next by omega, show s.next + 3 < s2.next by omega, n2]
            · cases hp
        · have h5 := h3 p hp
          have h6 := X2.keep (XS.keep (h2 p hp) (by simp)) (by simp)
          simp (maxSteps := 4000000) (maxDischargeDepth := 8) only [not_false_eq_true, DS.upd_get_ne, get_new_ne, hG2, show ¬ p.1 = s2.next by omega, show ¬ p.1 = s.next + 1 by omega, show p.1 < s2.next by omega, h6]
  · intro p hp
    have hfin : m ≤ p.1 ∧ p.1 < s2.next + 1 := by
      rcases List.mem_cons.1 hp with rfl | hp
      · show m ≤ s2.next ∧ s2.next < s2.next + 1; omega
      · rcases List.mem_cons.1 hp with rfl | hp
        · show m ≤ s.next ∧ s.next < s2.next + 1; omega
        · rcases List.mem_append.1 hp with hp | hp
          · rcases List.mem_cons.1 hp with rfl | hp
            · show m ≤ s.next + 2 ∧ s.next + 2 < s2.next + 1; omega
            · rcases List.mem_cons.1 hp with rfl | hp
              · show m ≤ s.next + 3 ∧ s.next + 3 < s2.next + 1; omega
              · cases hp
          · have h5 := h3 p hp; omega
    simp (maxSteps := 4000000) (maxDischargeDepth := 8) only [DS.upd_next, nextN]
    exact hfin
  · have X3 := XS.trans' X2
    have X4 : Ext [s2.next, s.next + 1] s2 (((s2.new (.cells (.list [.nilFunc, .nilFunc]) false)).upd s2.next (.cells (.list [.func (.func 92) #[] #[.pointer (some ⟨s.next + 2, 0, none⟩), .pointer (some ⟨s.next + 3, 0, none⟩)], .func (.func 94) #[] #[.pointer (some ⟨s.next + 2, 0, none⟩), .pointer (some ⟨s.next + 3, 0, none⟩)]]) false)).upd (s.next + 1) (.cells (.list [.func (.func 79) #[] #[.pointer (some ⟨s2.next, 0, none⟩), .pointer (some ⟨s.next, 0, none⟩)], .func (.func 80) #[] #[.pointer (some ⟨s2.next, 0, none⟩), .pointer (some ⟨s.next, 0, none⟩)]]) false)) := Ext.new.trans' ((Ext.upd (.inl (by simp))).trans' (Ext.upd (.inl (by simp))))
    exact X3.trans X4 (by simp; omega)
theorem num57_field (hG : s.Good) {m : Nat} (hm : m ≤ s.next) (hcode : E.fn 57 = some d57) (hintr : E.intr 57 = none) :
    W (dcall E (d + 2) (.func (.func 57) #[] #[]) [] s) fun r => FieldOk E 3 m r.2 r.1 repI (okNum 2 65535) (fun x => leB x 2) ∧ Ext [] s r.2 := by
  refine W_cps fun Q hQ => ?_
  rw [W_enter0 hintr hcode rfl]
  simp (maxSteps := 4000000) (maxDischargeDepth := 8) only [WC_seq, WC_region, contS_normal, contR_ap, WO_nil, WO_pp, contO_ap, W_alloc, W_call, ev_const, ev_func, putT_some, List.map_cons, List.map_nil, pp, d57, hG]
  refine W.mono (num_ok hC (DS.new_good hG) _ _) ?_
  rintro ⟨v2, s2⟩ ⟨hv2, n1, n2, X2, hn2⟩
  simp only [DS.new_next] at hv2 n1 n2 X2 hn2
  subst hv2
  have T0 := X2.keep (DS.new_get_self (o := .cells (.list [.nilFunc, .nilFunc]) false) hG) (by simp)
  have wT := X2.wrs (show (s.new (.cells (.list [.nilFunc, .nilFunc]) false)).wr s.next = true from (hG _ (Nat.le_refl _)).2)
  simp (maxSteps := 4000000) (maxDischargeDepth := 8) only [WC_ret, contS_normal, contR_ap, WO_nil, WO_pp, contO_ap, atD_ap, W_some, W_st, dread, Ends_ret, ev_tmp, putT_some, putT_none, get_put_eq, get_put_ne, not_false_eq_true, Option.getD_some, dresults, tupled, Cells.get, getN, Nat.zero_add, Nat.reduceAdd, st_wr, cells_agg, List.length_cons, List.length_nil, allOne, oneCellD, Bool.and_self, Bool.and_true, Nat.beq_eq, Nat.ble_eq, Nat.le_refl, if_true, DS.wrC, Cells.size, Cells.fillFrom, Cells.set, setN, DS.upd_get_self, Option.map_some, DS.read, Cells.take, eq_lt, Nat.add_assoc, Nat.lt_add_one, T0, wT]
  have X3 : ∀ o, Ext [] s (s2.upd s.next o) := fun o => (Ext.new.trans' X2).trans (Ext.upd (F := [s.next]) (.inl (by simp))) (by simp)
  refine hQ _ ⟨⟨_, _, _, _, _, _, [(s.next + 1, .cells (.list [.int .i64 ((2 : Nat) : Int)]) false), (s.next + 2, .cells (.list [.int .i64 65535]) false)], rfl, ?_, ?_, num_put hC (by omega)⟩, X3 _⟩
  · intro p hp
    rcases List.mem_cons.1 hp with rfl | hp
    · simp (maxSteps := 4000000) (maxDischargeDepth := 8) only [not_false_eq_true, DS.upd_get_ne, n1, show ¬ s.next + 1 = s.next by omega]
      rfl
    · rcases List.mem_cons.1 hp with rfl | hp
      · simp (maxSteps := 4000000) (maxDischargeDepth := 8) only [not_false_eq_true, DS.upd_get_ne, n2, show ¬ s.next + 2 = s.next by omega]
      · cases hp
  · intro p hp
    have : m ≤ p.1 ∧ p.1 < s2.next := by
      rcases List.mem_cons.1 hp with rfl | hp
      · show m ≤ s.next + 1 ∧ s.next + 1 < s2.next; omega
      · rcases List.mem_cons.1 hp with rfl | hp
        · show m ≤ s.next + 2 ∧ s.next + 2 < s2.next; omega
        · cases hp
    simp (maxSteps := 4000000) (maxDischargeDepth := 8) only [DS.upd_next]
    exact this
theorem num60_field (hG : s.Good) {m : Nat} (hm : m ≤ s.next) (hcode : E.fn 60 = some d60) (hintr : E.intr 60 = none) :
    W (dcall E (d + 2) (.func (.func 60) #[] #[]) [] s) fun r => FieldOk E 3 m r.2 r.1 repI (okNum 8 0) (fun x => leB x 8) ∧ Ext [] s r.2 := by
  refine W_cps fun Q hQ => ?_
  rw [W_enter0 hintr hcode rfl]
  simp (maxSteps := 4000000) (maxDischargeDepth := 8) only [WC_seq, WC_region, contS_normal, contR_ap, WO_nil, WO_pp, contO_ap, W_alloc, W_call, ev_const, ev_func, putT_some, List.map_cons, List.map_nil, pp, d60, hG]
  refine W.mono (num_ok hC (DS.new_good hG) _ _) ?_
  rintro ⟨v2, s2⟩ ⟨hv2, n1, n2, X2, hn2⟩
  simp only [DS.new_next] at hv2 n1 n2 X2 hn2
  subst hv2
  have T0 := X2.keep (DS.new_get_self (o := .cells (.list [.nilFunc, .nilFunc]) false) hG) (by simp)
  have wT := X2.wrs (show (s.new (.cells (.list [.nilFunc, .nilFunc]) false)).wr s.next = true from (hG _ (Nat.le_refl _)).2)
  simp (maxSteps := 4000000) (maxDischargeDepth := 8) only [WC_ret, contS_normal, contR_ap, WO_nil, WO_pp, contO_ap, atD_ap, W_some, W_st, dread, Ends_ret, ev_tmp, putT_some, putT_none, get_put_eq, get_put_ne, not_false_eq_true, Option.getD_some, dresults, tupled, Cells.get, getN, Nat.zero_add, Nat.reduceAdd, st_wr, cells_agg, List.length_cons, List.length_nil, allOne, oneCellD, Bool.and_self, Bool.and_true, Nat.beq_eq, Nat.ble_eq, Nat.le_refl, if_true, DS.wrC, Cells.size, Cells.fillFrom, Cells.set, setN, DS.upd_get_self, Option.map_some, DS.read, Cells.take, eq_lt, Nat.add_assoc, Nat.lt_add_one, T0, wT]
  have X3 : ∀ o, Ext [] s (s2.upd s.next o) := fun o => (Ext.new.trans' X2).trans (Ext.upd (F := [s.next]) (.inl (by simp))) (by simp)
  refine hQ _ ⟨⟨_, _, _, _, _, _, [(s.next + 1, .cells (.list [.int .i64 ((8 : Nat) : Int)]) false), (s.next + 2, .cells (.list [.int .i64 0]) false)], rfl, ?_, ?_, num_put hC (by omega)⟩, X3 _⟩
  · intro p hp
    rcases List.mem_cons.1 hp with rfl | hp
    · simp (maxSteps := 4000000) (maxDischargeDepth := 8) only [not_false_eq_true, DS.upd_get_ne, n1, show ¬ s.next + 1 = s.next by omega]
      rfl
    · rcases List.mem_cons.1 hp with rfl | hp
      · simp (maxSteps := 4000000) (maxDischargeDepth := 8) only [not_false_eq_true, DS.upd_get_ne, n2, show ¬ s.next + 2 = s.next by omega]
      · cases hp
  · intro p hp
    have : m ≤ p.1 ∧ p.1 < s2.next := by
      rcases List.mem_cons.1 hp with rfl | hp
      · show m ≤ s.next + 1 ∧ s.next + 1 < s2.next; omega
      · rcases List.mem_cons.1 hp with rfl | hp
        · show m ≤ s.next + 2 ∧ s.next + 2 < s2.next; omega
        · cases hp
    simp (maxSteps := 4000000) (maxDischargeDepth := 8) only [DS.upd_next]
    exact this
/-! ### What is written at once -/
theorem clip_ok {v : Value} {l : List Int} (h : SlC s 1 v (bytesV l)) (hcode : E.fn 63 = some d63) (hintr : E.intr 63 = none) :
    ∃ w, dcall E (d + 1) (.func (.func 63) #[] #[]) [v] s = some (w, s) ∧ SlV s 1 w (bytesV l) ∧ (∃ a, w = .slice a l.length l.length ∧ ∀ x, a = some x → x.spot = none) ∧ blk w = blk v := by
  obtain ⟨a, c, hv, hc⟩ := h.shape'
  have hvw := h.view (bytesV_ok l)
  rw [bytesV_len] at hv hc
  have e1 : Nat.ble l.length c = true := Nat.ble_eq.mpr hc
  have e2 : Nat.ble l.length l.length = true := Nat.ble_eq.mpr (Nat.le_refl _)
  have key : ∀ w, slV 1 v none (some (.int .i64 (l.length : Int))) (some (.int .i64 (l.length : Int))) = some w → dcall E (d + 1) (.func (.func 63) #[] #[]) [v] s = some (w, s) := by
    intro w hw
    rw [← W_iff, W_enter0 hintr hcode rfl]
    subst hv
    simp (maxSteps := 4000000) only [WC_seq, WC_region, WC_ret, contS_normal, contR_ap, WO_nil, WO_pp, contO_ap, atS_ap, W_some, W_mv, W_blenL, dpure, Ends_ret, ev_tmp, ev_const, putT_some, get_put_eq, get_put_ne, Nat.reduceEqDiff, not_false_eq_true, ofList_get, List.getElem?_cons_zero, Option.getD_some, dresults, tupled, reduceCtorEq, pp, pv, Option.map_some, W_slV, Option.map_none, d63, hw]
  rcases hvw with ⟨h1, h2⟩ | ⟨b, off, sp, c', h1, h2⟩
  · have hl : l = [] := by simpa [bytesV] using h2
    subst hl
    rw [h1] at hv
    cases hv
    exact ⟨.slice none 0 0, key _ (by subst h1; rfl), .inl ⟨rfl, rfl⟩, ⟨none, rfl, fun _ h => (nomatch h)⟩, by rw [h1]⟩
  · rw [bytesV_len] at h1
    have hw : slV 1 v none (some (.int .i64 (l.length : Int))) (some (.int .i64 (l.length : Int))) = some (.slice (some ⟨b, off, none⟩) l.length l.length) := by
      rw [hv] at h1
      cases h1
      rw [hv]
      unfold slV bounds
      simp only [asIdx_cast, e1, e2, if_true, Option.isSome_some, slTail, Nat.zero_mul, Nat.add_zero, Nat.sub_zero]
    exact ⟨_, key _ hw, .inr ⟨b, off, none, l.length, by rw [bytesV_len], h2⟩, ⟨_, rfl, fun _ h => by cases h; rfl⟩, by rw [h1]; rfl⟩
theorem encode42_ok {α : Type} {n m : Nat} {fv xv : Value} {Rep : Nat → DS → Value → α → Prop} {Ok : α → Prop} {enc : α → List Int} {x : α} {x1 : Int} {x2 : Option Addr} {x3 x4 : Nat} (hG : s.Good) (hf : FieldOk E n m s fv Rep Ok enc) (hr : Rep s.next s xv x) (hst : RepOk Rep) (hok : Ok x) (hlen : (enc x).length ≤ 1048576)
    (hxv : xv = .agg ⟨[.int .i64 x1, .slice x2 x3 x4]⟩) (hcode : E.fn 42 = some d42) (hintr : E.intr 42 = none) (hclip : E.fn 63 = some d63) (iclip : E.intr 63 = none) :
    W (dcall E ((d + n + 1) + 1) (.func (.func 42) #[] #[]) [fv, xv] s) fun r => ∃ w, r.1 = .tuple ⟨[w, .int .i64 0]⟩ ∧ SlV r.2 1 w (bytesV (enc x)) ∧ (∃ a, w = .slice a (enc x).length (enc x).length ∧ ∀ z, a = some z → z.spot = none) ∧ (∀ k, k ∈ blk w → s.next ≤ k ∧ k < r.2.next) ∧ Ext [] s r.2 := by
  obtain ⟨f, a, b, g, a', b', D, rfl, h2, h3, h4⟩ := hf
  subst hxv
  refine W_cps fun Q hQ => ?_
  rw [W_enter0 hintr hcode rfl]
  simp (maxSteps := 4000000) (maxDischargeDepth := 8) only [WC_seq, WC_region, WC_cond, WC_skip, contS_normal, contR_ap, WO_nil, WO_pp, condC_false, contO_ap, atS_ap, atG_ap, atB_ap, W_some, W_mv, W_eq1, W_build, W_fadr, W_ld, W_box, W_call, dpure, eqOne, ev_tmp, ev_const, putT_some, get_put_eq, get_put_ne, not_false_eq_true, ofList_get, List.getElem?_cons_zero, List.getElem?_cons_succ, Option.getD_some, List.map_cons, List.map_nil, ldV_at, Cells.get, getN, Nat.reduceAdd, cells_agg, if_false, Bool.not_false, Bool.false_eq_true, fillParts, pp, pv, nextN, W_ldA, ldA, Nat.add_zero, DS.read, Cells.take, get_new_at, get_new_ne, good_new, eq_lt, lt_add_s, Nat.add_assoc, Nat.reduceLT, Nat.lt_add_one, Nat.succ_pos, d42, hG]
  obtain ⟨S, hS⟩ : ∃ S : DS, S = ((s.new (.cells (.list [.func (.func f) a b, .func (.func g) a' b']) false)).new (.cells (.list [.int .i64 x1, .slice x2 x3 x4]) false)).new (.cells (.list [.slice none 0 0, .int .i64 0]) false) := ⟨_, rfl⟩
  rw [← hS]
  have XS : Ext [] s S := by rw [hS]; exact Ext.new.trans' (Ext.new.trans' Ext.new)
  have nS : S.next = s.next + 3 := by rw [hS]; simp (maxSteps := 4000000) (maxDischargeDepth := 8) only [Nat.reduceAdd, nextN, Nat.add_assoc]
  have hGS := XS.good hG
  have S0 : S.get s.next = some (.cells (.list [.func (.func f) a b, .func (.func g) a' b']) false) := by rw [hS]; simp (maxSteps := 4000000) (maxDischargeDepth := 8) only [Nat.reduceAdd, nextN, get_new_at, get_new_ne, good_new, lt_add_s, Nat.add_assoc, Nat.lt_add_one, Nat.succ_pos, hG]
  have S1 : S.get (s.next + 1) = some (.cells (.list [.int .i64 x1, .slice x2 x3 x4]) false) := by rw [hS]; simp (maxSteps := 4000000) (maxDischargeDepth := 8) only [Nat.reduceAdd, nextN, get_new_at, get_new_ne, good_new, Nat.add_assoc, Nat.lt_add_one, hG]
  have S2 : S.get (s.next + 2) = some (.cells (.list [.slice none 0 0, .int .i64 0]) false) := by rw [hS]; simp (maxSteps := 4000000) (maxDischargeDepth := 8) only [Nat.reduceAdd, nextN, get_new_at, good_new, Nat.add_assoc, hG]
  have O : OutAt S (s.next + 2) (.slice none 0 0) [] := ⟨S2, XS.wrs (hG _ (by omega)).2, by simpa [bytesV] using SlC.nil, by simp [blk], by simp⟩
  have hY : Same (s.next) s S := fun k hk => XS.get k hk (by simp)
  have hld : ldA 2 (.pointer (some ⟨s.next + 1, 0, none⟩)) S = some (.agg ⟨[.int .i64 x1, .slice x2 x3 x4]⟩) := by
    unfold ldA DS.read
    simp only [S1]
    rfl
  rw [show d + (n + 1) = (d + 1) + n by omega]
  refine W.mono (h4 (d + 1) S (s.next + 2) _ [] _ x (h2.keep XS (by simp)) (fun p hp => by have := h3 p hp; omega) O hGS (hst.mono _ _ _ _ _ (hst.stab _ _ _ _ _ hr hY) (by omega)) hok (by simpa using hlen)) ?_
  rintro ⟨v3, s3⟩ ⟨hv3, bv3, O3, X3, b3⟩
  simp only at hv3 O3 X3 b3
  subst hv3
  rw [List.nil_append] at O3
  have go3 := O3.go
  obtain ⟨w, hw1, hw2, hw3, hw4⟩ := clip_ok hC (d := d + n) O3.sl hclip iclip
  rw [show (d + n) + 1 = (d + 1) + n by omega] at hw1
  simp (maxSteps := 4000000) only [WC_seq, WC_region, WC_cond, WC_skip, WC_ret, contS_normal, contR_ap, WO_nil, WO_pp, condC_false, contO_ap, atS_ap, W_some, W_mv, W_bin, W_nilck, W_fadr, W_ld, W_call, dpure, dbin, dint, Ends_ret, ev_tmp, ev_const, ev_func, putT_some, get_put_eq, get_put_ne, Nat.reduceEqDiff, not_false_eq_true, Option.getD_some, dresults, tupled, List.map_cons, List.map_nil, ldV_at, Cells.get, getN, Nat.zero_add, if_true, Bool.not_true, Nat.add_zero, decide_true, go3, hw1]
  have X4 : Ext [] s s3 := XS.trans X3 (by simp [blk])
  refine hQ _ ⟨w, rfl, hw2, hw3, fun k hk => ?_, X4⟩
  rw [hw4] at hk
  refine ⟨?_, O3.sl.lt k hk⟩
  have := O3.up k hk
  omega
end
end Go.Dx.StA
