/- audit.Bound, and the law on it: whatever the numbers. -/
import Derived.Test.YtbkppipaomjpdaaGreatDxSym
import Derived.Test.YtbkppipaomjpdaaGreatDxRow
import Derived.Test.YtbkppipaomjpdaaGreatDxAb
namespace Go.Proofs.YtbkppipaomjpdaaGreat.bounds
open Go Go.Dx
set_option maxRecDepth 100000
set_option linter.unusedSimpArgs false
set_option linter.unusedVariables false
set_option maxHeartbeats 2000000
def fnT (k : Nat) : Option DFunc := match k with | 3 => some d3 | 5 => some d5 | _ => none
def intrT (k : Nat) : Option (List Value → DS → Option (Value × DS)) := match k with | 6 => some trueD | _ => none
def E : Env := { fn := fnT, intr := intrT, lf := 100000 }
theorem c5 {d : Nat} {args : List Value} {s : DS} (hl : Nat.ble args.length d5.ntmps = true) : dcall E (d + 1) (.func (.func 5) #[] #[]) args s = entered E d d5 args s := sym_call rfl rfl hl
theorem c3 {d : Nat} {args : List Value} {s : DS} (hl : Nat.ble args.length d3.ntmps = true) : dcall E (d + 1) (.func (.func 3) #[] #[]) args s = entered E d d3 args s := sym_call rfl rfl hl
theorem lives_run (s : DS) (d : Nat) : dcall E (d + 1) (.func (.func 6) #[] #[]) [] s = some (.bool true, s) := rfl
theorem wid {n : Int} (h1 : -9223372036854775808 ≤ n) (h2 : n < 9223372036854775808) : dwrap .i64 n = n := by
  rw [dwrap_eq]
  simp [IntKind.wrap, IntKind.bits, IntKind.signed]
  omega
def mx (a : Int) : Int := if a < 0 then 0 else a
theorem mx_step (a : Int) : maxStep (some (.int .i64 a)) (.int .i64 0) = some (.int .i64 (mx a)) := rfl
theorem mx_nn (a : Int) : 0 ≤ mx a := by unfold mx; split <;> omega
theorem mx_le {a b : Int} (h : a ≤ b) (hb : 0 ≤ b) : mx a ≤ b := by unfold mx; split <;> omega
/-- what Bound says -/
def bnd (F P L : Int) : Int := if 1152921504606846973 < F ∨ 1152921504606846973 < P ∨ 4611686018427387893 < L ∨ (4611686018427387893 - L) / (2 * F + 2) < P + 2 then 9223372036854775807 else 20 + 2 * ((2 * F + 2) * (P + 2) + L)
theorem bound_run (f p l : Int) (hf : f < 9223372036854775808) (hp : p < 9223372036854775808) (hl : l < 9223372036854775808) (s : DS) (d : Nat) :
    dcall E (d + 1) (.func (.func 5) #[] #[]) [.int .i64 f, .int .i64 p, .int .i64 l] s = some (.int .i64 (bnd (mx f) (mx p) (mx l)), s) := by
  rw [c5 rfl]
  have h1 := mx_nn f; have h2 := mx_nn p; have h3 := mx_nn l
  by_cases g1 : 1152921504606846973 < mx f
  · simp [entered, pp, pv, pg, pw, tm, d3, d5, dcode, sym_op, sym_guard, sym_nil, dop, DOp.cls, dpure, dbin, dint, ev, putT, PT.get_put, ofList_get, killAll, dresults, tupled, getN, wantedD, mx_step, g1, bnd]
  · by_cases g2 : 1152921504606846973 < mx p
    · simp [entered, pp, pv, pg, pw, tm, d3, d5, dcode, sym_op, sym_guard, sym_nil, dop, DOp.cls, dpure, dbin, dint, ev, putT, PT.get_put, ofList_get, killAll, dresults, tupled, getN, wantedD, mx_step, g1, g2, bnd]
    · by_cases g3 : 4611686018427387893 < mx l
      · simp [entered, pp, pv, pg, pw, tm, d3, d5, dcode, sym_op, sym_guard, sym_nil, dop, DOp.cls, dpure, dbin, dint, ev, putT, PT.get_put, ofList_get, killAll, dresults, tupled, getN, wantedD, mx_step, g1, g2, g3, bnd]
      · have w1 : dwrap .i64 (mx p + 2) = mx p + 2 := wid (by omega) (by omega)
        have w2 : dwrap .i64 (4611686018427387893 - mx l) = 4611686018427387893 - mx l := wid (by omega) (by omega)
        have w3 : dwrap .i64 (2 * mx f) = 2 * mx f := wid (by omega) (by omega)
        have w4 : dwrap .i64 (2 * mx f + 2) = 2 * mx f + 2 := wid (by omega) (by omega)
        have hq0 : (0 : Int) ≤ (4611686018427387893 - mx l) / (2 * mx f + 2) := Int.ediv_nonneg (by omega) (by omega)
        have hq1 : (4611686018427387893 - mx l) / (2 * mx f + 2) ≤ 4611686018427387893 - mx l := Int.ediv_le_self _ (by omega)
        have w5 : dwrap .i64 ((4611686018427387893 - mx l).tdiv (2 * mx f + 2)) = (4611686018427387893 - mx l) / (2 * mx f + 2) := by
          rw [Int.tdiv_eq_ediv_of_nonneg (by omega)]
          exact wid (by omega) (by omega)
        have hz : ¬ (2 * mx f + 2 = 0) := by omega
        by_cases g4 : (4611686018427387893 - mx l) / (2 * mx f + 2) < mx p + 2
        · simp [entered, pp, pv, pg, pw, tm, d3, d5, dcode, sym_op, sym_guard, sym_nil, dop, DOp.cls, dpure, dbin, dint, ev, putT, PT.get_put, ofList_get, killAll, dresults, tupled, getN, wantedD, mx_step, g1, g2, g3, w1, w2, w3, w4, w5, hz, g4, bnd]
        · have hm : (mx p + 2) * (2 * mx f + 2) ≤ 4611686018427387893 - mx l := (Int.le_ediv_iff_mul_le (by omega)).1 (by omega)
          have hm' : (2 * mx f + 2) * (mx p + 2) ≤ 4611686018427387893 - mx l := by rw [Int.mul_comm]; exact hm
          have hm0 : 0 ≤ (2 * mx f + 2) * (mx p + 2) := Int.mul_nonneg (by omega) (by omega)
          have w6 : dwrap .i64 ((2 * mx f + 2) * (mx p + 2)) = (2 * mx f + 2) * (mx p + 2) := wid (by omega) (by omega)
          have w7 : dwrap .i64 ((2 * mx f + 2) * (mx p + 2) + mx l) = (2 * mx f + 2) * (mx p + 2) + mx l := wid (by omega) (by omega)
          have w8 : dwrap .i64 (2 * ((2 * mx f + 2) * (mx p + 2) + mx l)) = 2 * ((2 * mx f + 2) * (mx p + 2) + mx l) := wid (by omega) (by omega)
          have w9 : dwrap .i64 (20 + 2 * ((2 * mx f + 2) * (mx p + 2) + mx l)) = 20 + 2 * ((2 * mx f + 2) * (mx p + 2) + mx l) := wid (by omega) (by omega)
          simp [entered, pp, pv, pg, pw, tm, d3, d5, dcode, sym_op, sym_guard, sym_nil, dop, DOp.cls, dpure, dbin, dint, ev, putT, PT.get_put, ofList_get, killAll, dresults, tupled, getN, wantedD, mx_step, g1, g2, g3, w1, w2, w3, w4, w5, w6, w7, w8, w9, hz, g4, bnd]

theorem bnd_ge {F P L : Int} (hF : 0 ≤ F) (hP : 0 ≤ P) (hL : 0 ≤ L) : 20 ≤ bnd F P L := by
  unfold bnd
  split
  · omega
  · have : 0 ≤ (2 * F + 2) * (P + 2) := Int.mul_nonneg (by omega) (by omega)
    omega
theorem bnd_small {F P L : Int} (hF : 0 ≤ F) (hP : 0 ≤ P) (hL : 0 ≤ L) (h1 : F < 1048576) (h2 : P < 1048576) (h3 : L < 1099511627776) : bnd F P L = 20 + 2 * ((2 * F + 2) * (P + 2) + L) := by
  unfold bnd
  rw [if_neg]
  have hq : P + 2 ≤ (4611686018427387893 - L) / (2 * F + 2) := by
    rw [Int.le_ediv_iff_mul_le (by omega)]
    have : (P + 2) * (2 * F + 2) ≤ 1048578 * 2097152 := Int.mul_le_mul (by omega) (by omega) (by omega) (by omega)
    omega
  omega
theorem bnd_big {F P L : Int} (h : 2305843009213693952 < F ∨ 2305843009213693952 < P ∨ 4611686018427387904 < L) : bnd F P L = 9223372036854775807 := by
  unfold bnd
  rw [if_pos]
  omega
def tail : DCode := .seq (.seq (.region [pv 24 0, pp 25 (.bin .lss (tm 24) (.const (.int .i64 1048576))), pv 26 25, pw 27 1 26 true, pg 28 (.bin .lss (tm 27) (.const (.int .i64 1048576))) 26 true, pp 29 (.pick (tm 26) (tm 28) (.const (.bool false))), pv 30 29, pw 31 2 30 true, pg 32 (.bin .lss (tm 31) (.const (.int .i64 1099511627776))) 30 true, pp 33 (.pick (tm 30) (tm 32) (.const (.bool false)))]) (.cond (tm 33) (.seq (.region [pv 34 7, pv 35 0, pp 36 (.bin .mul (.const (.int .i64 2)) (tm 35)), pp 37 (.bin .add (tm 36) (.const (.int .i64 2))), pv 38 1, pp 39 (.bin .add (tm 38) (.const (.int .i64 2))), pp 40 (.bin .mul (tm 37) (tm 39)), pv 41 2, pp 42 (.bin .add (tm 40) (tm 41)), pp 43 (.bin .mul (.const (.int .i64 2)) (tm 42)), pp 44 (.bin .add (.const (.int .i64 20)) (tm 43)), pp 45 (.bin .eql (tm 34) (tm 44)), pv 6 45]) (.ret)) (.skip))) (.seq (.seq (.region [pv 46 0, pp 47 (.bin .gtr (tm 46) (.const (.int .i64 2305843009213693952))), pv 48 47, pw 49 1 48 false, pg 50 (.bin .gtr (tm 49) (.const (.int .i64 2305843009213693952))) 48 false, pp 51 (.pick (tm 48) (.const (.bool true)) (tm 50)), pv 52 51, pw 53 2 52 false, pg 54 (.bin .gtr (tm 53) (.const (.int .i64 4611686018427387904))) 52 false, pp 55 (.pick (tm 52) (.const (.bool true)) (tm 54))]) (.cond (tm 55) (.seq (.region [pv 56 7, pp 57 (.bin .eql (tm 56) (.const (.int .i64 9223372036854775807))), pv 6 57]) (.ret)) (.skip))) (.seq (.region [pp 6 (.mv (.const (.bool true)))]) (.ret)))
theorem d3_body : d3.body = .seq (.region [pp 6 (.mv (.const (.bool false)))]) (.seq (.region [pv 8 0, pv 9 1, pv 10 2, pp 11 (.call (.func 5) [.tmp 8, .tmp 9, .tmp 10]), pv 7 11]) (.seq (.seq (.region [pp 12 (.call (.func 6) []), pp 13 (.un .not (tm 12)), pv 14 13, pw 15 7 14 false, pg 16 (.bin .lss (tm 15) (.const (.int .i64 20))) 14 false, pp 17 (.pick (tm 14) (.const (.bool true)) (tm 16))]) (.cond (tm 17) (.seq (.region [pp 6 (.mv (.const (.bool false)))]) (.ret)) (.skip))) (.seq (.seq (.region [pv 18 0, pp 19 (.bin .lss (tm 18) (.const (.int .i64 0)))]) (.cond (tm 19) (.region [pp 0 (.mv (.const (.int .i64 0)))]) (.skip))) (.seq (.seq (.region [pv 20 1, pp 21 (.bin .lss (tm 20) (.const (.int .i64 0)))]) (.cond (tm 21) (.region [pp 1 (.mv (.const (.int .i64 0)))]) (.skip))) (.seq (.seq (.region [pv 22 2, pp 23 (.bin .lss (tm 22) (.const (.int .i64 0)))]) (.cond (tm 23) (.region [pp 2 (.mv (.const (.int .i64 0)))]) (.skip))) (tail)))))) := rfl
def Good (s : DS) (r : Option (DExit × St)) : Prop := match r with
  | some (.ret, x) => x.t.get 6 = some (.bool true) ∧ x.s = s ∧ x.defers = []
  | _ => False
def finR (r : Option (DExit × St)) : Option (Value × DS) :=
  match r with
  | some (.exit _, _) => none
  | some (_, x) => match killAll x.s x.defers with
    | some s' => match dresults x.t s' [.tmp 6] with
      | some vs => some (tupled vs, s')
      | none => none
    | none => none
  | none => none
theorem fin_good {s : DS} {r : Option (DExit × St)} (h : Good s r) : finR r = some (.bool true, s) := by
  unfold Good at h
  split at h
  · obtain ⟨h1, h2, h3⟩ := h
    simp [finR, h1, h2, h3, killAll, dresults, tupled]
  · exact h.elim
theorem entered3 {d : Nat} {args : List Value} {s : DS} : entered E d d3 args s = finR (dcode (dcall E d) E.lf false d3.body ⟨argsT args, s, []⟩) := rfl
theorem tail_run {call : CallFn} {lf : Nat} {F P L : Int} (hF : 0 ≤ F) (hP : 0 ≤ P) (hL : 0 ≤ L) (t : PT Value) (s : DS) (h0 : t.get 0 = some (.int .i64 F)) (h1 : t.get 1 = some (.int .i64 P)) (h2 : t.get 2 = some (.int .i64 L)) (h7 : t.get 7 = some (.int .i64 (bnd F P L))) :
    Good s (dcode call lf false tail ⟨t, s, []⟩) := by
  have hbig : (2305843009213693952 < F ∨ 2305843009213693952 < P ∨ 4611686018427387904 < L) → bnd F P L = 9223372036854775807 := bnd_big
  by_cases s1 : F < 1048576 ∧ P < 1048576 ∧ L < 1099511627776
  · obtain ⟨a1, a2, a3⟩ := s1
    have hm0 : 0 ≤ (2 * F + 2) * (P + 2) := Int.mul_nonneg (by omega) (by omega)
    have hm1 : (2 * F + 2) * (P + 2) ≤ 2097152 * 1048578 := Int.mul_le_mul (by omega) (by omega) (by omega) (by omega)
    have w3 : dwrap .i64 (2 * F) = 2 * F := wid (by omega) (by omega)
    have w4 : dwrap .i64 (2 * F + 2) = 2 * F + 2 := wid (by omega) (by omega)
    have w1 : dwrap .i64 (P + 2) = P + 2 := wid (by omega) (by omega)
    have w6 : dwrap .i64 ((2 * F + 2) * (P + 2)) = (2 * F + 2) * (P + 2) := wid (by omega) (by omega)
    have w7 : dwrap .i64 ((2 * F + 2) * (P + 2) + L) = (2 * F + 2) * (P + 2) + L := wid (by omega) (by omega)
    have w8 : dwrap .i64 (2 * ((2 * F + 2) * (P + 2) + L)) = 2 * ((2 * F + 2) * (P + 2) + L) := wid (by omega) (by omega)
    have w9 : dwrap .i64 (20 + 2 * ((2 * F + 2) * (P + 2) + L)) = 20 + 2 * ((2 * F + 2) * (P + 2) + L) := wid (by omega) (by omega)
    simp [tail, pp, pv, pg, pw, tm, dcode, sym_op, sym_guard, sym_nil, dop, DOp.cls, dpure, dbin, dint, ev, putT, PT.get_put, wantedD, Good, h0, h1, h2, h7, a1, a2, a3, w1, w3, w4, w6, w7, w8, w9, bnd_small hF hP hL a1 a2 a3]
  · by_cases b1 : 2305843009213693952 < F
    · have a1 : ¬ F < 1048576 := by omega
      simp [tail, pp, pv, pg, pw, tm, dcode, sym_op, sym_guard, sym_nil, dop, DOp.cls, dpure, dbin, dint, ev, putT, PT.get_put, wantedD, Good, h0, h1, h2, h7, a1, b1, bnd_big (.inl b1)]
    · by_cases b2 : 2305843009213693952 < P
      · have a2 : ¬ P < 1048576 := by omega
        by_cases a1 : F < 1048576
        · simp [tail, pp, pv, pg, pw, tm, dcode, sym_op, sym_guard, sym_nil, dop, DOp.cls, dpure, dbin, dint, ev, putT, PT.get_put, wantedD, Good, h0, h1, h2, h7, a1, a2, b1, b2, bnd_big (.inr (.inl b2))]
        · simp [tail, pp, pv, pg, pw, tm, dcode, sym_op, sym_guard, sym_nil, dop, DOp.cls, dpure, dbin, dint, ev, putT, PT.get_put, wantedD, Good, h0, h1, h2, h7, a1, a2, b1, b2, bnd_big (.inr (.inl b2))]
      · by_cases b3 : 4611686018427387904 < L
        · have a3 : ¬ L < 1099511627776 := by omega
          by_cases a1 : F < 1048576
          · by_cases a2 : P < 1048576
            · simp [tail, pp, pv, pg, pw, tm, dcode, sym_op, sym_guard, sym_nil, dop, DOp.cls, dpure, dbin, dint, ev, putT, PT.get_put, wantedD, Good, h0, h1, h2, h7, a1, a2, a3, b1, b2, b3, bnd_big (.inr (.inr b3))]
            · simp [tail, pp, pv, pg, pw, tm, dcode, sym_op, sym_guard, sym_nil, dop, DOp.cls, dpure, dbin, dint, ev, putT, PT.get_put, wantedD, Good, h0, h1, h2, h7, a1, a2, a3, b1, b2, b3, bnd_big (.inr (.inr b3))]
          · simp [tail, pp, pv, pg, pw, tm, dcode, sym_op, sym_guard, sym_nil, dop, DOp.cls, dpure, dbin, dint, ev, putT, PT.get_put, wantedD, Good, h0, h1, h2, h7, a1, a3, b1, b2, b3, bnd_big (.inr (.inr b3))]
        · by_cases a1 : F < 1048576
          · by_cases a2 : P < 1048576
            · have a3 : ¬ L < 1099511627776 := fun h => s1 ⟨a1, a2, h⟩
              simp [tail, pp, pv, pg, pw, tm, dcode, sym_op, sym_guard, sym_nil, dop, DOp.cls, dpure, dbin, dint, ev, putT, PT.get_put, wantedD, Good, h0, h1, h2, h7, a1, a2, a3, b1, b2, b3]
            · simp [tail, pp, pv, pg, pw, tm, dcode, sym_op, sym_guard, sym_nil, dop, DOp.cls, dpure, dbin, dint, ev, putT, PT.get_put, wantedD, Good, h0, h1, h2, h7, a1, a2, b1, b2, b3]
          · simp [tail, pp, pv, pg, pw, tm, dcode, sym_op, sym_guard, sym_nil, dop, DOp.cls, dpure, dbin, dint, ev, putT, PT.get_put, wantedD, Good, h0, h1, h2, h7, a1, b1, b2, b3]
theorem run3 (f p l : Int) (hf : f < 9223372036854775808) (hp : p < 9223372036854775808) (hl : l < 9223372036854775808) (s : DS) (d : Nat) :
    dcall E (d + 2) (.func (.func 3) #[] #[]) [.int .i64 f, .int .i64 p, .int .i64 l] s = some (.bool true, s) := by
  rw [c3 rfl, entered3]
  apply fin_good
  rw [d3_body]
  have hn := bnd_ge (mx_nn f) (mx_nn p) (mx_nn l)
  have hn' : ¬ bnd (mx f) (mx p) (mx l) < 20 := by omega
  by_cases a1 : f < 0 <;> by_cases a2 : p < 0 <;> by_cases a3 : l < 0
  all_goals
    simp [pp, pv, pg, pw, tm, dcode, sym_op, sym_guard, sym_nil, dop, DOp.cls, dpure, dbin, dint, ev, putT, PT.get_put, wantedD, ofList_get, bound_run f p l hf hp hl, lives_run, hn', a1, a2, a3]
    refine tail_run (mx_nn f) (mx_nn p) (mx_nn l) _ s ?_ ?_ ?_ ?_ <;> simp [PT.get_put, ofList_get, mx, a1, a2, a3]
end Go.Proofs.YtbkppipaomjpdaaGreat.bounds
