/- A part. -/
import Derived.Test.YtffgmngdgkpflaaGreatT1Ja
import Derived.Test.YtffgmngdgkpflaaGreatT1Tr
set_option linter.unusedVariables false
set_option linter.unusedSimpArgs false
set_option linter.unusedSectionVars false
set_option maxRecDepth 100000
set_option maxHeartbeats 4000000
namespace Go.Dx.TbA
open Go Go.Dx Go.Dx.Tab Go.Proofs.YtffgmngdgkpflaaGreat
structure QT (s : DS) (q : Nat) (A : Int → Option TR) : Prop where
 gq : s.get q = some (.cells (.list (Jl A)) false)
 wq : s.wr q = true
theorem QT.keep {s s' : DS} {q : Nat} {A : Int → Option TR} {F : List Nat} (c : QT s q A) (e : Ext F s s') (h : q ∉ F) : QT s' q A := ⟨e.keep c.gq h, e.wrs c.wq⟩
theorem H0 : zT = Jl fun _ => none := rfl
theorem SlX.toR' {s : DS} {v : Value} {l : List Int} (h : SlX s 1 v (Zy l)) : SlR s v l := by
 rcases h with ⟨rfl, h0⟩ | ⟨b, sp, rfl, h1, h2, h3⟩
 · exact .inl ⟨rfl, by simpa [Zy] using h0⟩
 · refine .inr ⟨b, 0, sp, (Zy l).length, by rw [Ze], h1, by rw [Ze]; exact Nat.le_refl _, ?_⟩
   unfold DS.read
   rw [h2]
   show (Cells.list (Zy l).flatten).take 0 l.length = some (u8s l)
   rw [XP, Qr]
   refine Jj (List.length_map ..) fun i hi => ?_
   rw [Nat.zero_add]
   show getN (u8s l) i = _
   rw [Yu]
def Kw (l : List ZL) : Int := match l.getLast? with | none => -1 | some x => x.1.1
theorem Fk (l : List ZL) (x : ZL) : Kw (l ++ [x]) = x.1.1 := by
 unfold Kw
 rw [List.getLast?_append]
 rfl
theorem ZQ.snoc {l : List ZL} {x : ZL} : ZQ (l ++ [x]) ↔ ZQ l ∧ Wi x ∧ Kw l < x.1.1 := by
 constructor
 · intro h
   have hx := h l.length x (by simp)
   refine ⟨h.pre, hx.1, ?_⟩
   unfold Kw
   cases e : l.getLast? with
   | none =>
    have hr := hx.1.row.who
    have : (0 : Int) ≤ x.1.1 := hr.1
    show (-1 : Int) < x.1.1
    omega
   | some y =>
    have hne : l ≠ [] := fun h0 => by rw [h0] at e; cases e
    have hl := List.length_pos_iff.2 hne
    refine hx.2 y (by omega) ?_
    rw [List.getElem?_append_left (by omega), ← List.getLast?_eq_getElem?]
    exact e
 · rintro ⟨h1, h2, h3⟩ i y hy
   by_cases hi : i < l.length
   · rw [List.getElem?_append_left hi] at hy
     obtain ⟨h4, h5⟩ := h1 i y hy
     exact ⟨h4, fun z h6 h7 => h5 z h6 (by rwa [List.getElem?_append_left (by omega)] at h7)⟩
   · have hi2 := (List.getElem?_eq_some_iff.1 hy).1
     simp only [List.length_append, List.length_singleton] at hi2
     have hi3 : i = l.length := by omega
     subst hi3
     have e : x = y := by simpa using hy
     subst e
     refine ⟨h2, fun z h6 h7 => ?_⟩
     rw [List.getElem?_append_left (by omega), ← List.getLast?_eq_getElem?] at h7
     unfold Kw at h3
     rw [h7] at h3
     exact h3
theorem KS {l : List ZL} {x : ZL} (h : ZQ (l ++ [x])) : Go.Dx.Tab.rowOf (Ye (l ++ [x])) = fun k => if k = x.1.1 then some (YG x) else Go.Dx.Tab.rowOf (Ye l) k := by
 funext k
 rw [Gy]
 have hnone : Go.Dx.Tab.rowOf (Ye l) x.1.1 = none := Gx _ _ 0 fun y hy => by
  obtain ⟨j, hj, hy⟩ := List.mem_iff_getElem.1 hy
  have := h.lt l.length j x y hj (by simp) (by rw [List.getElem?_append_left hj, List.getElem?_eq_getElem hj, hy])
  omega
 rcases J4 (Ye l) x.1.1 0 with ⟨_, _, h3⟩ | ⟨j, z, _, _, h3, _⟩
 · exact h3 (YG x) l.length rfl k
 · rw [hnone] at h3
   cases h3
structure EM (S0 : DS) (r q N : Nat) (bv : Value) (B : Nat) (tot : List ZL × RS) (n : Nat) (y : St) : Prop where
 ex : ∃ (l : List ZL) (st : RS) (bv' : Value), n + l.length = N ∧ y.defers = [] ∧
  (y.t.get 4 = some (.pointer (some ⟨r, 0, none⟩)) ∧ y.t.get 5 = some (.pointer (some ⟨q, 0, none⟩)) ∧ y.t.get 6 = some (.int .i64 (N : Int)) ∧ y.t.get 7 = some (.int .i64 (Kw l)) ∧ y.t.get 8 = some (.int .i64 (l.length : Int))) ∧
  QT y.s q (Go.Dx.Tab.rowOf (Ye l)) ∧ YK y.s r bv' st.1 st.2 ∧ (∀ k, k ∈ blk bv' → k ∈ blk bv) ∧ Ext [r, q] S0 y.s ∧ y.s.Good ∧ IsB st.1 ∧ st.1.length ≤ B ∧ Yc Vv n l st = tot ∧ ZQ l
def NH : DCode := (.seq (.seq (.region [pp 8 (.mv (.const (.int .i64 0)))]) (.block 0 (.loop (.seq (.seq (.region [pv 22 8, pv 23 6, pp 24 (.bin .lss (tm 22) (tm 23)), pv 25 24, pw 26 4 25 true, pg 27 (.nilck (tm 26)) 25 true, pg 28 (.fadr 1 (tm 27)) 25 true, pg 29 (.ld none (tm 28)) 25 true, pg 30 (.un .not (tm 29)) 25 true, pp 31 (.pick (tm 25) (tm 30) (.const (.bool false)))]) (.cond (tm 31) (.skip) (.exit 0))) (.seq (.block 1 (.seq (.region [pv 34 4, pp 35 (.call (.func 27) [.tmp 34]), pv 9 35]) (.seq (.region [pp 36 (.build [.bool false, .int .i64 0, .bool false, .int .i64 0, .int .i64 0, .bool false, .int .i64 0, .int .i64 0, .int .i64 0] [(0, 1, .const (.bool true))]), pp 10 (.alloc [.bool false, .int .i64 0, .bool false, .int .i64 0, .int .i64 0, .bool false, .int .i64 0, .int .i64 0, .int .i64 0]), ⟨none, .st 9 (tm 10) (tm 36), none, [], false⟩]) (.seq (.region [pv 37 4, pp 38 (.call (.func 28) [.tmp 37]), pp 39 (.fadr 1 (tm 10)), ⟨none, .st 1 (tm 39) (tm 38), none, [], false⟩]) (.seq (.region [pv 40 4, pp 41 (.call (.func 29) [.tmp 40]), pp 42 (.fadr 2 (tm 10)), ⟨none, .st 1 (tm 42) (tm 41), none, [], false⟩]) (.seq (.region [pv 43 4, pp 44 (.call (.func 30) [.tmp 43]), pv 11 44]) (.seq (.seq (.region [pv 45 4, pp 46 (.nilck (tm 45)), pp 47 (.fadr 1 (tm 46)), pp 48 (.ld none (tm 47)), pv 49 48, pw 50 9 49 false, pw 51 7 49 false, pg 52 (.bin .leq (tm 50) (tm 51)) 49 false, pp 53 (.pick (tm 49) (.const (.bool true)) (tm 52)), pv 54 53, pw 55 9 54 false, pg 56 (.fadr 1 (tm 10)) 54 false, pg 57 (.ld none (tm 56)) 54 false, pg 58 (.call (.func 31) [.tmp 55, .tmp 57]) 54 false, pg 59 (.un .not (tm 58)) 54 false, pp 60 (.pick (tm 54) (.const (.bool true)) (tm 59))]) (.cond (tm 60) (.seq (.region [pp 2 (.mv (.const (.pointer none))), pp 3 (.mv (.const (.bool false)))]) (.ret)) (.skip))) (.seq (.region [pv 61 9, pv 7 61]) (.seq (.seq (.region [pp 62 (.fadr 2 (tm 10)), pp 63 (.ld none (tm 62))]) (.cond (tm 63) (.seq (.region [pv 64 11, pp 65 (.build [.slice none 0 0, .bool false] [(0, 1, .tmp 64)]), pp 66 (.box (tm 65)), pv 12 66]) (.seq (.region [pv 68 12, pp 69 (.call (.func 32) [.tmp 68]), pv 67 69, pp 70 (.ext (tm 67) 0), pp 71 (.ext (tm 67) 1), pp 13 (.alloc [.int .i64 0, .int .i64 0, .bool false, .int .i64 0, .int .i64 0, .int .i64 0]), ⟨none, .st 6 (tm 13) (tm 70), none, [], false⟩, pv 14 71]) (.seq (.seq (.region [pv 72 14, pp 73 (.un .not (tm 72)), pv 74 73, pw 75 12 74 false, pg 76 (.nilck (tm 75)) 74 false, pg 77 (.fadr 0 (tm 76)) 74 false, pg 78 (.ld none (tm 77)) 74 false, pg 79 (.blenL (tm 78)) 74 false, pg 80 (.bin .gtr (tm 79) (.const (.int .i64 0))) 74 false, pp 81 (.pick (tm 74) (.const (.bool true)) (tm 80)), pv 82 81, pg 83 (.fadr 0 (tm 13)) 82 false, pg 84 (.ld none (tm 83)) 82 false, pw 85 9 82 false, pg 86 (.bin .neq (tm 84) (tm 85)) 82 false, pp 87 (.pick (tm 82) (.const (.bool true)) (tm 86)), pv 88 87, pg 89 (.fadr 1 (tm 13)) 88 false, pg 90 (.ld none (tm 89)) 88 false, pg 91 (.fadr 1 (tm 10)) 88 false, pg 92 (.ld none (tm 91)) 88 false, pg 93 (.bin .neq (tm 90) (tm 92)) 88 false, pp 94 (.pick (tm 88) (.const (.bool true)) (tm 93))]) (.cond (tm 94) (.seq (.region [pp 2 (.mv (.const (.pointer none))), pp 3 (.mv (.const (.bool false)))]) (.ret)) (.skip))) (.region [pp 95 (.ld (some 6) (tm 13)), pp 96 (.fadr 3 (tm 10)), ⟨none, .st 6 (tm 96) (tm 95), none, [], false⟩])))) (.seq (.region [pv 97 11, pp 98 (.blenL (tm 97)), pp 99 (.bin .gtr (tm 98) (.const (.int .i64 0)))]) (.cond (tm 99) (.seq (.region [pp 2 (.mv (.const (.pointer none))), pp 3 (.mv (.const (.bool false)))]) (.ret)) (.skip))))) (.region [pv 100 5, pv 101 9, pp 102 (.ld (some 9) (tm 10)), pp 103 (.nilck (tm 100)), pp 104 (.fadr 0 (tm 103)), pp 105 (.ixA 64 9 (tm 104) (tm 101)), ⟨none, .st 9 (tm 105) (tm 102), none, [], false⟩])))))))))) (.region [pv 32 8, pp 33 (.bin .add (tm 32) (.const (.int .i64 1))), pv 8 33])))))) (.seq (.region [pv 106 5, pv 107 4, pp 108 (.nilck (tm 107)), pp 109 (.fadr 1 (tm 108)), pp 110 (.ld none (tm 109)), pp 111 (.un .not (tm 110)), pv 112 111, pw 113 4 112 true, pg 114 (.nilck (tm 113)) 112 true, pg 115 (.fadr 0 (tm 114)) 112 true, pg 116 (.ld none (tm 115)) 112 true, pg 117 (.blenL (tm 116)) 112 true, pg 118 (.bin .eql (tm 117) (.const (.int .i64 0))) 112 true, pp 119 (.pick (tm 112) (tm 118) (.const (.bool false))), pv 2 106, pv 3 119]) (.ret)))
def dRu : z7 := { ntmps := 120, results := [.tmp 2, .tmp 3], body := .seq (.region [pp 2 (.mv (.const (.pointer none))), pp 3 (.mv (.const (.bool false)))]) (.seq (.region [pv 15 0, pp 16 (.build [.slice none 0 0, .bool false] [(0, 1, .tmp 15)]), pp 17 (.box (tm 16)), pv 4 17]) (.seq (.region [pp 18 (.build zT []), pp 19 (.box (tm 18)), pv 5 19]) (.seq (.region [pv 20 4, pp 21 (.call (.func 26) [.tmp 20]), pv 6 21]) (.seq (.region [pp 7 (.mv (.const (.int .i64 (-1))))]) NH)))) }
theorem HR : d7 = dRu := rfl
section
variable {E : Env} (hR : Cp E) {d : Nat}
include hR
theorem Ei {S0 : DS} {r q N : Nat} {bv : Value} {B : Nat} {st : RS} {tot : List ZL × RS} {t : PT Value} {Q : Value × DS → Prop}
 (gq : QT S0 q fun _ => none) (hI : YK S0 r bv st.1 st.2) (hqr : q ≠ r) (hbq : ∀ k, k ∈ blk bv → k ≠ q) (hG : S0.Good) (hB : IsB st.1) (hl : st.1.length ≤ B) (hBm : B ≤ 1048576) (hN : N ≤ 4096)
 (htot : Yc Vv N [] st = tot)
 (t4 : t.get 4 = some (.pointer (some ⟨r, 0, none⟩))) (t5 : t.get 5 = some (.pointer (some ⟨q, 0, none⟩))) (t6 : t.get 6 = some (.int .i64 (N : Int))) (t7 : t.get 7 = some (.int .i64 (-1)))
 (hQ : ∀ p, (Ext [r, q] S0 p.2 ∧ ((¬ (tot.2.2 = false ∧ tot.2.1 = [] ∧ ZQ tot.1) ∧ ∃ w, p.1 = .tuple #[.pointer w, .bool false]) ∨
  ((tot.2.2 = false ∧ tot.2.1 = [] ∧ ZQ tot.1) ∧ p.1 = .tuple #[.pointer (some ⟨q, 0, none⟩), .bool true] ∧ QT p.2 q (Go.Dx.Tab.rowOf (Ye tot.1))))) → Q p) :
 WC (dcall E (d + 5)) E.lf false NH ⟨t, S0, []⟩ (Ends [.tmp 2, .tmp 3] Q) := by
 have hlf := hR.lf
 have hrlt := DS.get_lt' hI.gr
 have hqlt := DS.get_lt' gq.gq
 have hbl := hI.sl.lt
 have hrb := hI.ne
 simp (maxSteps := 4000000) only [zq, zg, Zp, za, zf, zl, zo, ze, zK, zm, zd, pp, pv, pw, pg, NH, t4, t5, t6, t7]
 refine Wc (EM S0 r q N bv B tot) N (by omega) ⟨[], st, bv, rfl, rfl, ?_, gq, hI, fun _ h => h, .refl, hG, hB, hl, htot, fun i x h => by simp at h⟩ ?_
 · simp (maxSteps := 4000000) only [zb, zc, Nat.reduceEqDiff, z0, List.length_nil, Bool.true_and, true_and, t4, t5, t6, t7]
   exact ⟨rfl, rfl⟩
 rintro n ⟨t, S, ds⟩ hn ⟨l, st1, bv1, hnl, hds, ⟨t4, t5, t6, t7, t8⟩, cq, I0, b0, X, G0, B0, L0, htot, hok⟩
 simp only at hds t4 t5 t6 t7 t8 cq I0 X G0
 subst hds
 obtain ⟨x0, hx0⟩ : ∃ x0 : RS, x0 = st1 := ⟨_, rfl⟩
 rw [← hx0] at I0 B0 L0 htot
 have gr0 := I0.gr
 have gqS := cq.gq
 have wqS := cq.wq
 have leS := X.le
 have fin : ∀ (okb : Bool), tot = (l, x0) → (okb = true ↔ x0.2 = false ∧ x0.1 = []) → Q (.tuple #[.pointer (some ⟨q, 0, none⟩), .bool okb], S) := by
  intro okb he hb
  cases okb with
  | false =>
   refine hQ _ ⟨X, .inl ⟨fun h => ?_, _, rfl⟩⟩
   rw [he] at h
   have := hb.2 ⟨h.1, h.2.1⟩
   cases this
  | true =>
   have h1 := hb.1 rfl
   rw [he] at hQ
   exact hQ _ ⟨X, .inr ⟨⟨h1.1, h1.2, hok⟩, rfl, cq⟩⟩
 cases n with
 | zero =>
  have e0 : ¬ (l.length : Int) < (N : Int) := by omega
  have htE : tot = (l, x0) := htot.symm
  cases hst : x0.2 with
  | true =>
   rw [hst] at gr0
   simp (maxSteps := 4000000) only [zq, zg, zD, zI, Yx, za, ZH, ZI, zf, ZN, zl, zo, Zm, Zv, zt, ze, zr, zj, zK, zR, zV, YU, z8, zF, z9, zp, Zc, zX, zu, zi, zm, zd, zb, zc, Nat.reduceEqDiff, z0, z1, zn, zy, zG, Cells.get, getN, Nat.zero_add, if_true, if_false, Bool.not_true, z3, List.nil_append, decide_false, t4, t5, t6, t7, t8, e0, gr0]
   exact fin false htE ⟨fun h => (nomatch h), fun h => by rw [hst] at h; cases h.1⟩
  | false =>
   rw [hst] at gr0
   obtain ⟨ba, bc, hbv⟩ := I0.sl.len
   rw [hbv] at gr0
   by_cases hz : x0.1 = []
   · have hz1 : ((x0.1.length : Int) = 0) = True := eq_true (by rw [hz]; rfl)
     simp (maxSteps := 4000000) only [zq, zg, zD, zI, Yx, za, ZH, ZI, zf, ZN, zl, zo, Zm, Za, Zv, zt, ze, zr, zj, zK, zR, zV, YU, z8, zF, ZE, z9, zp, Zc, zX, zu, zi, zm, zd, zb, zc, Nat.reduceEqDiff, z0, z1, zn, zy, zG, Cells.get, getN, Nat.zero_add, if_true, if_false, Bool.not_false, z3, List.nil_append, Nat.add_zero, decide_true, decide_false, t4, t5, t6, t7, t8, e0, gr0, hz1]
     exact fin true htE ⟨fun _ => ⟨hst, hz⟩, fun _ => rfl⟩
   · have hz1 : ((x0.1.length : Int) = 0) = False := eq_false (by have := List.length_pos_iff.2 hz; omega)
     simp (maxSteps := 4000000) only [zq, zg, zD, zI, Yx, za, ZH, ZI, zf, ZN, zl, zo, Zm, Za, Zv, zt, ze, zr, zj, zK, zR, zV, YU, z8, zF, ZE, z9, zp, Zc, zX, zu, zi, zm, zd, zb, zc, Nat.reduceEqDiff, z0, z1, zn, zy, zG, Cells.get, getN, Nat.zero_add, if_true, if_false, Bool.not_false, z3, List.nil_append, Nat.add_zero, decide_false, t4, t5, t6, t7, t8, e0, gr0, hz1]
     exact fin false htE ⟨fun h => (nomatch h), fun h => absurd h.2 hz⟩
 | succ n =>
  have e1 : (l.length : Int) < (N : Int) := by omega
  cases hst : x0.2 with
  | true =>
   have htE : tot = (l, x0) := by rw [← htot]; exact WN _ _ _ hst
   rw [hst] at gr0
   simp (maxSteps := 4000000) only [zq, zg, zD, zI, Yx, za, ZH, ZI, zf, ZN, zl, zo, Zm, Za, Zv, zt, ze, zr, zj, zK, zR, zV, YU, z8, zF, z9, zp, Zc, zX, zu, zi, zm, zd, zb, zc, Nat.reduceEqDiff, z0, z1, zn, zy, zG, Cells.get, getN, Nat.zero_add, if_true, if_false, Bool.not_true, z3, List.nil_append, decide_true, t4, t5, t6, t7, t8, e1, gr0]
   exact fin false htE ⟨fun h => (nomatch h), fun h => by rw [hst] at h; cases h.1⟩
  | false =>
   rw [hst] at gr0
   simp (maxSteps := 4000000) only [zq, zg, zD, Zp, zO, za, zf, zl, zo, Zm, Za, zN, ze, zr, zj, zK, zR, zV, YU, z8, zF, z9, zB, zp, Zc, zX, zi, zm, zA, zd, zb, zc, Nat.reduceEqDiff, z0, z1, z4, z5, zG, Cells.get, getN, Nat.zero_add, if_true, Bool.not_false, decide_true, t4, t5, t6, t7, t8, e1, gr0]
   refine W.mono (GW hR (d := d + 1) (bs := x0.1) (bad := x0.2) I0 G0 B0 (by omega)) ?_
   rintro ⟨v1, T1⟩ ⟨bv2, hv1, I1, XT1, bT1⟩
   simp only at hv1 I1 XT1 bT1
   have hv1 : v1 = _ := hv1
   subst hv1
   obtain ⟨y0, hy0⟩ : ∃ y, y = (rdN 1 255 x0).1 := ⟨_, rfl⟩
   obtain ⟨x1, hx1⟩ : ∃ x, x = (rdN 1 255 x0).2 := ⟨_, rfl⟩
   rw [show ((x0.1, x0.2) : RS) = x0 from rfl] at I1
   rw [show ((x0.1, x0.2) : RS) = x0 from rfl]
   rw [← hy0]
   rw [← hx1] at I1
   obtain ⟨k1, hk1⟩ := (Zo 1 255).suf x0
   rw [← hx1] at hk1
   have B1 : IsB x1.1 := by rw [hk1]; exact B0.drop k1
   have L1 : x1.1.length ≤ B := by rw [hk1]; simp; omega
   have b1 : ∀ k, k ∈ blk bv2 → k ∈ blk bv := fun k hk => b0 k (bT1 k hk)
   have le1 := XT1.le
   obtain ⟨S1, hS1⟩ : ∃ S1 : DS, S1 = (T1.new (.cells (.list [.bool false, .int .i64 0, .bool false, .int .i64 0, .int .i64 0, .bool false, .int .i64 0, .int .i64 0, .int .i64 0]) false)).upd T1.next (.cells (.list [.bool true, .int .i64 0, .bool false, .int .i64 0, .int .i64 0, .bool false, .int .i64 0, .int .i64 0, .int .i64 0]) false) := ⟨_, rfl⟩
   have G1' := (X.trans' (XT1.weaken (by simp))).good hG
   simp (maxSteps := 4000000) (maxDischargeDepth := 8) only [zq, zg, za, zf, zl, zo, ze, zU, ZC, zj, zK, Zl, Zx, zW, zB, zi, zm, zA, zd, zE, zb, zc, z0, z1, z4, z5, Nat.zero_add, Nat.reduceAdd, Zd, ZO, zx, List.length_cons, List.length_nil, zL, zH, Bool.and_self, Bool.and_true, Bool.and_eq_true, Nat.beq_eq, Nat.ble_eq, Nat.reduceLeDiff, Nat.le_refl, and_self, if_true, DS.wrC, Cells.size, Cells.fillFrom, Cells.set, Zb, zM, List.take_zero, List.drop_succ_cons, List.drop_zero, List.nil_append, List.cons_append, wrN, zk, zC, Zi, zJ, ZF, Nat.reduceLT, t4, t5, t6, t7, t8, G1', ← hS1]
   have XS1 : Ext [] T1 S1 := by
    rw [hS1]
    exact (Ext.new (F := [])).trans (Ext.upd (F := [T1.next]) (.inl (by simp))) (by simp)
   have g1 : S1.get T1.next = some (.cells (.list [.bool true, .int .i64 0, .bool false, .int .i64 0, .int .i64 0, .bool false, .int .i64 0, .int .i64 0, .int .i64 0]) false) := by rw [hS1, DS.upd_get_self, DS.new_get_self G1']; rfl
   have n1 : S1.next = T1.next + 1 := by rw [hS1, DS.upd_next]; rfl
   clear hS1
   have w1 : S1.wr T1.next = true := XS1.wrs (G1' _ (Nat.le_refl _)).2
   replace I1 := I1.keep XS1 (by simp) (by simp)
   have Y1 : Ext [r] S S1 := XT1.trans XS1 (by simp)
   have G1 := XS1.good G1'
   obtain ⟨xp, hxp⟩ : ∃ xp, xp = T1.next := ⟨_, rfl⟩
   rw [← hxp] at g1 w1 n1 ⊢
   have hxpS : S.next ≤ xp := by omega
   have hrl : r < S.next := DS.get_lt' gr0
   refine W.mono (Gg hR (d := d + 2) (bs := x1.1) (bad := x1.2) I1 G1 B1 (by omega)) ?_
   rintro ⟨v2, T2⟩ ⟨bv3, hv2, I2, XT2, bT2⟩
   simp only at hv2 I2 XT2 bT2
   have hv2 : v2 = _ := hv2
   subst hv2
   obtain ⟨y1, hy1⟩ : ∃ y, y = (rdN 8 0 x1).1 := ⟨_, rfl⟩
   obtain ⟨x2, hx2⟩ : ∃ x, x = (rdN 8 0 x1).2 := ⟨_, rfl⟩
   rw [show ((x1.1, x1.2) : RS) = x1 from rfl] at I2
   rw [show ((x1.1, x1.2) : RS) = x1 from rfl]
   rw [← hy1]
   rw [← hx2] at I2
   obtain ⟨k2, hk2⟩ := (Zo 8 0).suf x1
   rw [← hx2] at hk2
   have B2 : IsB x2.1 := by rw [hk2]; exact B1.drop k2
   have L2 : x2.1.length ≤ B := by rw [hk2]; simp; omega
   have b2 : ∀ k, k ∈ blk bv3 → k ∈ blk bv := fun k hk => b1 k (bT2 k hk)
   have le2 := XT2.le
   have gT2 := XT2.keep g1 (by simp; omega)
   have wT2 := XT2.wrs w1
   simp (maxSteps := 4000000) (maxDischargeDepth := 8) only [zq, zg, za, zf, zl, zo, ze, zr, zU, zj, zK, zF, Zx, zB, zp, zi, zA, zd, zE, zb, zc, z0, z1, z4, z5, Nat.zero_add, Nat.reduceAdd, Zd, ZK, List.length_cons, List.length_nil, zL, zH, Bool.and_self, Bool.and_true, Nat.beq_eq, Nat.ble_eq, Nat.reduceLeDiff, if_true, DS.wrC, Cells.size, Cells.fillFrom, Cells.set, Zb, zJ, Nat.reduceLT, Nat.lt_add_one, t4, t5, t6, t7, t8, gT2, wT2]
   obtain ⟨S2, hS2⟩ : ∃ S : DS, S = T2.upd xp (.cells (.list [.bool true, .int .i64 y1, .bool false, .int .i64 0, .int .i64 0, .bool false, .int .i64 0, .int .i64 0, .int .i64 0]) false) := ⟨_, rfl⟩
   rw [← hS2]
   have XU2 : Ext [xp] T2 S2 := by rw [hS2]; exact Ext.upd (.inl (by simp))
   have g2 : S2.get xp = some (.cells (.list [.bool true, .int .i64 y1, .bool false, .int .i64 0, .int .i64 0, .bool false, .int .i64 0, .int .i64 0, .int .i64 0]) false) := by rw [hS2, DS.upd_get_self, gT2]; rfl
   have w2 := XU2.wrs wT2
   clear hS2
   replace I2 := I2.keep XU2 (by simp; omega) (fun k hk => by have := hbl k (b2 k hk); simp; omega)
   have Y2 : Ext [r] S S2 := (Y1.trans' XT2).trans XU2 (by simp; omega)
   have G2 := Y2.good G0
   refine W.mono (CG hR (d := d + 1) (bs := x2.1) (bad := x2.2) I2 G2 B2 (by omega)) ?_
   rintro ⟨v3, T3⟩ ⟨bv4, hv3, I3, XT3, bT3⟩
   simp only at hv3 I3 XT3 bT3
   have hv3 : v3 = _ := hv3
   subst hv3
   obtain ⟨y2, hy2⟩ : ∃ y, y = (rdF x2).1 := ⟨_, rfl⟩
   obtain ⟨x3, hx3⟩ : ∃ x, x = (rdF x2).2 := ⟨_, rfl⟩
   rw [show ((x2.1, x2.2) : RS) = x2 from rfl] at I3
   rw [show ((x2.1, x2.2) : RS) = x2 from rfl]
   rw [← hy2]
   rw [← hx3] at I3
   obtain ⟨k3, hk3⟩ := Qs.suf x2
   rw [← hx3] at hk3
   have B3 : IsB x3.1 := by rw [hk3]; exact B2.drop k3
   have L3 : x3.1.length ≤ B := by rw [hk3]; simp; omega
   have b3 : ∀ k, k ∈ blk bv4 → k ∈ blk bv := fun k hk => b2 k (bT3 k hk)
   have le3 := XT3.le
   have gT3 := XT3.keep g2 (by simp; omega)
   have wT3 := XT3.wrs w2
   simp (maxSteps := 4000000) (maxDischargeDepth := 8) only [zq, zg, za, zf, zl, zo, ze, zr, zU, zj, zK, zF, Zx, zB, zp, zi, zA, zd, zE, zb, zc, z0, z1, z4, z5, Nat.zero_add, Nat.reduceAdd, Zd, ZO, List.length_cons, List.length_nil, zL, zH, Bool.and_self, Bool.and_true, Nat.beq_eq, Nat.ble_eq, Nat.reduceLeDiff, if_true, DS.wrC, Cells.size, Cells.fillFrom, Cells.set, Zb, zJ, Nat.reduceLT, Nat.lt_add_one, t4, t5, t6, t7, t8, gT3, wT3]
   obtain ⟨S3, hS3⟩ : ∃ S : DS, S = T3.upd xp (.cells (.list [.bool true, .int .i64 y1, .bool y2, .int .i64 0, .int .i64 0, .bool false, .int .i64 0, .int .i64 0, .int .i64 0]) false) := ⟨_, rfl⟩
   rw [← hS3]
   have XU3 : Ext [xp] T3 S3 := by rw [hS3]; exact Ext.upd (.inl (by simp))
   have g3 : S3.get xp = some (.cells (.list [.bool true, .int .i64 y1, .bool y2, .int .i64 0, .int .i64 0, .bool false, .int .i64 0, .int .i64 0, .int .i64 0]) false) := by rw [hS3, DS.upd_get_self, gT3]; rfl
   have w3 := XU3.wrs wT3
   clear hS3
   replace I3 := I3.keep XU3 (by simp; omega) (fun k hk => by have := hbl k (b3 k hk); simp; omega)
   have Y3 : Ext [r] S S3 := (Y2.trans' XT3).trans XU3 (by simp; omega)
   have G3 := Y3.good G0
   refine W.mono (NW hR (d := d + 1) (bs := x3.1) (bad := x3.2) I3 G3 B3 (by omega)) ?_
   rintro ⟨w, S4⟩ ⟨bv5, hw4, I4, XT4, bT4⟩
   simp only at hw4 I4 XT4 bT4
   rw [show ((x3.1, x3.2) : RS) = x3 from rfl] at I4 hw4
   obtain ⟨body, hbody⟩ : ∃ y, y = (rdB x3).1 := ⟨_, rfl⟩
   obtain ⟨x4, hx4⟩ : ∃ x, x = (rdB x3).2 := ⟨_, rfl⟩
   rw [← hx4] at I4
   rw [← hbody] at hw4
   have hsuf4 := D6.suf x3
   rw [← hx4] at hsuf4
   obtain ⟨k4, hk4⟩ := hsuf4
   have hBb : IsB body ∧ body.length ≤ 1048576 := by rw [hbody]; exact Dt x3 B3
   have B4 : IsB x4.1 := by rw [hk4]; exact B3.drop k4
   have L4 : x4.1.length ≤ B := by rw [hk4]; simp; omega
   have b4 : ∀ k, k ∈ blk bv5 → k ∈ blk bv := fun k hk => b3 k (bT4 k hk)
   have g4 := XT4.keep g3 (by simp; omega)
   have w4 := XT4.wrs w3
   have Y4 : Ext [r] S S4 := Y3.trans' XT4
   have G4 := Y4.good G0
   have le4 := XT4.le
   have hLn : Vv x0 = (((y0, y1), (y2, body)), x4) := by
    subst hy0 hy1 hy2 hbody hx4 hx3 hx2 hx1
    rfl
   have htot' : Yc Vv n (l ++ [((y0, y1), (y2, body))]) x4 = tot := by
    rw [← htot, Yc, if_neg (by rw [hst]; simp), hLn]
   have gr4 := I4.gr
   obtain ⟨wa, hwS⟩ := hw4.shape
   rw [Ze] at hwS
   have hR4 := SlX.toR' hw4
   subst hwS
   have bad : ∀ (S' : DS), Ext [r] S S' → ¬ (tot.2.2 = false ∧ tot.2.1 = [] ∧ ZQ tot.1) → Q (.tuple #[.pointer none, .bool false], S') := fun S' X' h => hQ _ ⟨X.trans' (X'.weaken (by simp)), .inl ⟨h, _, rfl⟩⟩
   obtain ⟨rst, hrst⟩ := GT Vv n (l ++ [((y0, y1), (y2, body))]) x4
   rw [htot'] at hrst
   have hsn : ZQ tot.1 → Wi ((y0, y1), (y2, body)) ∧ Kw l < y0 := fun h => by
    rw [hrst] at h
    exact (ZQ.snoc.1 h.pre).2
   cases hb4 : x4.2 with
   | true =>
    rw [hb4] at gr4
    simp (maxSteps := 4000000) (maxDischargeDepth := 8) only [zq, zg, zD, zI, za, Zf, YA, zf, Xq, zl, zo, Zm, Yg, zN, ze, zr, zj, zK, zR, z8, zF, z9, zp, zu, zi, zm, zd, zb, zc, z0, z1, zn, zy, zG, Cells.get, getN, Nat.zero_add, if_true, if_false, z3, List.nil_append, zJ, Nat.reduceLT, Nat.lt_add_one, t4, t5, t6, t7, t8, gr4]
    refine bad _ Y4 fun h => ?_
    have he : tot = (l ++ [((y0, y1), (y2, body))], x4) := by rw [← htot']; exact WN _ _ _ hb4
    rw [he] at h
    rw [hb4] at h
    cases h.1
   | false =>
    rw [hb4] at gr4
    by_cases cl : y0 ≤ Kw l
    · simp (maxSteps := 4000000) (maxDischargeDepth := 8) only [zq, zg, zD, zI, za, Zf, YA, zf, Xq, zl, zo, Zm, Yg, zY, zN, ze, zr, zj, zK, zR, zV, z8, zF, z9, zp, Zc, zX, zu, zi, zm, zd, zb, zc, z0, z1, zn, zy, zG, Cells.get, getN, Nat.zero_add, if_true, if_false, z3, List.nil_append, decide_true, zJ, Nat.reduceLT, Nat.lt_add_one, t4, t5, t6, t7, t8, gr4, cl]
      exact bad _ Y4 fun h => by have := (hsn h.2.2).2; omega
    simp (maxSteps := 4000000) (maxDischargeDepth := 8) only [zq, zg, za, zf, zl, zo, Zm, zY, ze, zr, zj, zK, zR, zV, z8, zF, z9, zB, zp, Zc, zX, zi, zm, zA, zd, zb, zc, z0, z1, z4, z5, zG, Cells.get, getN, Nat.zero_add, if_true, if_false, z3, decide_false, zJ, Nat.reduceLT, Nat.lt_add_one, t4, t5, t6, t7, t8, gr4, cl, g4]
    refine W.mono (M7 hR (d := d + 3) G4 y0 y1) ?_
    rintro ⟨v5, S5⟩ ⟨h5, XT5⟩
    simp only at h5 XT5
    subst h5
    have Y5 : Ext [r] S S5 := Y4.trans' (XT5.weaken (by simp))
    by_cases hw : Who y0 y1
    case neg =>
     rw [decide_eq_false hw]
     simp (maxSteps := 4000000) only [zq, zg, zD, zI, za, Zf, YA, zf, Xq, zl, zo, Zm, zY, zN, ze, zr, zj, zK, zR, YU, zp, zu, zi, zm, zd, zb, zc, Nat.reduceEqDiff, z0, z1, zn, zy, if_false, Bool.not_false, z3]
     exact bad _ Y5 fun h => hw ((hsn h.2.2).1.row.who)
    rw [decide_eq_true hw]
    have G5 := Y5.good G0
    have g5 := XT5.keep g4 (by simp)
    have w5 := XT5.wrs w4
    have I5 := I4.keep XT5 (by simp) (by simp)
    have gq5 : S5.get q = some (.cells (.list (Jl (Go.Dx.Tab.rowOf (Ye l)))) false) := Y5.keep gqS (by simp; exact hqr)
    have wq5 := Y5.wrs wqS
    have le5 := XT5.le
    have leY5 := Y5.le
    obtain ⟨ci, hci⟩ : ∃ ci : Nat, y0 = (ci : Int) := ⟨y0.toNat, (Int.toNat_of_nonneg hw.1).symm⟩
    subst hci
    have hci64 : ci < 64 := by have := hw.2.1; omega
    have w1' : Zj .i64 ((l.length : Int) + 1) = ((l.length + 1 : Nat) : Int) := by rw [ZV (by omega) (by omega)]; omega
    have hsw : SlR S5 (.slice wa body.length body.length) body := hR4.keep XT5 (by simp)
    cases y2 with
    | false =>
     simp (maxSteps := 4000000) only [zq, zg, zD, zO, za, zf, zl, zo, Zm, zY, zt, ze, zr, zj, zK, zR, zV, YU, zF, ZE, z9, zp, Zc, zX, zi, zm, zd, zb, zc, Nat.reduceEqDiff, z0, z1, zG, Cells.get, getN, Nat.zero_add, if_true, if_false, Bool.not_true, z3, g5]
     by_cases hbn : body = []
     case neg =>
      have hlb : ((0 : Int) < (body.length : Int)) = True := eq_true (by have := List.length_pos_iff.2 hbn; omega)
      simp (maxSteps := 4000000) only [zq, zg, zI, za, Zf, YA, zf, Xq, zl, zo, zN, ze, zj, zK, zu, zm, zd, zb, zc, Nat.reduceEqDiff, z0, z1, zn, zy, decide_true, t4, t5, t6, t7, t8, hlb]
      exact bad _ Y5 fun h => by
       have := (hsn h.2.2).1
       unfold Wi at this
       simp only [z3, if_false] at this
       exact hbn this.1
     have hlb : ((0 : Int) < (body.length : Int)) = False := eq_false (by rw [hbn]; simp)
     obtain ⟨S9, hS9⟩ : ∃ S9, S9 = S5 := ⟨_, rfl⟩
     have okx : Wi (((ci : Int), y1), (false, body)) := by
      unfold Wi
      simp only [z3, if_false]
      exact ⟨hbn, hw⟩
     have hrow : rrC (some (YG (((ci : Int), y1), (false, body)))) = [.bool true, .int .i64 y1, .bool false, .int .i64 0, .int .i64 0, .bool false, .int .i64 0, .int .i64 0, .int .i64 0] := rfl
     have hold : ldA 9 (.pointer (some ⟨xp, 0, none⟩)) S5 = some (.agg ⟨[.bool true, .int .i64 y1, .bool false, .int .i64 0, .int .i64 0, .bool false, .int .i64 0, .int .i64 0, .int .i64 0]⟩) := by
      simp only [ldA, DS.read, g5]
      rfl
     have hlt : Kw l < (ci : Int) := by omega
     have okn : ZQ (l ++ [(((ci : Int), y1), (false, body))]) := ZQ.snoc.2 ⟨hok, okx, hlt⟩
     have hA := KS okn
     have hfill : (Zb (Zb (Zb (Zb (Zb (Zb (Zb (Zb (Zb (Jl (Go.Dx.Tab.rowOf (Ye l))) (ci * 9) (.bool true)) (ci * 9 + 1) (.int .i64 y1)) (ci * 9 + 2) (.bool false)) (ci * 9 + 3) (.int .i64 0)) (ci * 9 + 4) (.int .i64 0)) (ci * 9 + 5) (.bool false)) (ci * 9 + 6) (.int .i64 0)) (ci * 9 + 7) (.int .i64 0)) (ci * 9 + 8) (.int .i64 0)) = Jl (Go.Dx.Tab.rowOf (Ye (l ++ [(((ci : Int), y1), (false, body))]))) := by
      rw [hA]
      have h0 := CO (Go.Dx.Tab.rowOf (Ye l)) hci64 (some (YG (((ci : Int), y1), (false, body))))
      rw [hrow] at h0
      exact Cells.list.inj h0
     have hle9 : (ci * 9 + 9 ≤ 576) = True := eq_true (by omega)
     simp (maxSteps := 4000000) (maxDischargeDepth := 8) only [zg, zO, za, Zk, zf, ZB, zl, zo, zt, ze, zr, zU, zj, zK, zV, z8, zF, Zx, zp, Zc, zX, zi, zm, zd, zE, zb, zc, z0, z1, Nat.zero_add, Nat.reduceAdd, Zd, zx, List.length_cons, List.length_nil, zL, zH, Bool.and_self, Bool.and_true, Nat.beq_eq, Nat.ble_eq, Nat.blt_eq, if_true, DS.wrC, Cells.size, Cells.fillFrom, Cells.set, Yh, Nat.add_zero, Zq, decide_false, QS, zJ, ZF, Nat.add_assoc, Nat.reduceLT, Nat.lt_add_one, t4, t5, t6, t7, t8, hlb, hold, gq5, wq5, hci64, GO, hle9, hfill, w1']
     obtain ⟨SZ, hSZ⟩ : ∃ SZ : DS, SZ = S5.upd q (.cells (.list (Jl (Go.Dx.Tab.rowOf (Ye (l ++ [(((ci : Int), y1), (false, body))]))))) false) := ⟨_, rfl⟩
     have XZ : Ext [q] S5 SZ := by rw [hSZ]; exact Ext.upd (.inl (by simp))
     have gZ : SZ.get q = some (.cells (.list (Jl (Go.Dx.Tab.rowOf (Ye (l ++ [(((ci : Int), y1), (false, body))]))))) false) := by rw [hSZ, DS.upd_get_self, gq5]; rfl
     rw [← hSZ]
     clear hSZ
     have YZ : Ext [r, q] S SZ := (Y5.weaken (by simp)).trans' (XZ.weaken (by simp))
     refine ⟨n, by omega, ⟨l ++ [(((ci : Int), y1), (false, body))], x4, bv5, by simp; omega, rfl, ?_, ⟨gZ, XZ.wrs wq5⟩, I5.keep XZ (by simp; omega) (fun k hk e => hbq k (b4 k hk) (List.mem_singleton.1 e)), b4, X.trans' YZ, YZ.good G0, B4, L4, htot', okn⟩⟩
     rw [Fk, List.length_append]
     simp (maxSteps := 4000000) only [zb, zc, Nat.reduceEqDiff, z0, Nat.zero_add, List.length_cons, List.length_nil, Bool.and_self, and_self, t4, t5, t6, t7, t8]
    | true =>
     simp (maxSteps := 4000000) only [zq, zg, zD, zO, za, zf, zl, zo, Zm, zY, zN, zt, ze, zr, ZC, zj, zK, zR, YU, Zl, zF, z9, ZA, zB, zp, zi, zm, zA, zd, zb, zc, Nat.reduceEqDiff, z0, z1, z4, z5, zG, Cells.get, getN, Nat.zero_add, Nat.reduceAdd, YE, zx, List.length_cons, List.length_nil, Bool.and_self, Bool.and_eq_true, Nat.beq_eq, Nat.ble_eq, Nat.reduceLeDiff, and_self, if_true, if_false, Bool.not_true, z3, zM, List.take_zero, List.drop_succ_cons, List.drop_zero, List.nil_append, List.cons_append, g5]
     obtain ⟨S6, hS6⟩ : ∃ S6 : DS, S6 = S5.new (.cells (.list [.slice wa body.length body.length, .bool false]) false) := ⟨_, rfl⟩
     rw [← hS6]
     have X6 : ∀ F, Ext F S5 S6 := fun F => by rw [hS6]; exact Ext.new
     have g6 : S6.get S5.next = some (.cells (.list [.slice wa body.length body.length, .bool false]) false) := by rw [hS6]; exact DS.new_get_self G5
     have w6 : S6.wr S5.next = true := (X6 []).wrs (G5 _ (Nat.le_refl _)).2
     have n6 : S6.next = S5.next + 1 := by rw [hS6]; rfl
     clear hS6
     have hwlt := hsw.lt
     have I6 : YK S6 S5.next (.slice wa body.length body.length) body false := ⟨g6, w6, hsw.keep (X6 []) (by simp), fun hk => by have := hwlt _ hk; omega⟩
     have G6 := (X6 []).good G5
     refine W.mono (Pn hR (d := d) I6 G6 hBb.1 hBb.2) ?_
     rintro ⟨v7, T7⟩ ⟨h7, bv7, J7, XT7, b7⟩
     simp only at h7 J7 XT7
     subst h7
     have hgood : Q3 body ↔ ((Xw (body, false)).2.2 = false ∧ Xi (GI (Xw (body, false)).1)) ∧ (Xw (body, false)).2.1 = [] := by
      unfold Q3 FT
      exact ⟨fun h => ⟨⟨h.1.1, h.2⟩, h.1.2⟩, fun h => ⟨⟨h.1.1, h.2⟩, h.1.2⟩⟩
     obtain ⟨rp, hrp⟩ : ∃ rp, rp = GI (Xw (body, false)).1 := ⟨_, rfl⟩
     rw [← hrp] at hgood ⊢
     have YT7 : Ext [r] S T7 := (Y5.trans' (X6 _)).trans XT7 (by simp; omega)
     have GT7 := YT7.good G0
     have leT := XT7.le
     obtain ⟨S7, hS7⟩ : ∃ S7 : DS, S7 = (T7.new (.cells (.list [.int .i64 0, .int .i64 0, .bool false, .int .i64 0, .int .i64 0, .int .i64 0]) false)).upd T7.next (.cells (.list [.int .i64 rp.c, .int .i64 rp.n, .bool rp.rej, .int .i64 rp.trap, .int .i64 rp.v, .int .i64 rp.gas]) false) := ⟨_, rfl⟩
     have XS7 : Ext [] T7 S7 := by
      rw [hS7]
      exact (Ext.new (F := [])).trans (Ext.upd (F := [T7.next]) (.inl (by simp))) (by simp)
     have g7 : S7.get T7.next = some (.cells (.list [.int .i64 rp.c, .int .i64 rp.n, .bool rp.rej, .int .i64 rp.trap, .int .i64 rp.v, .int .i64 rp.gas]) false) := by rw [hS7, DS.upd_get_self, DS.new_get_self GT7]; rfl
     have hrc : rp.cells = [.int .i64 rp.c, .int .i64 rp.n, .bool rp.rej, .int .i64 rp.trap, .int .i64 rp.v, .int .i64 rp.gas] := rfl
     rw [hrc]
     have YS7 : Ext [r] S S7 := YT7.trans' (XS7.weaken (by simp))
     have okl : Wi (((ci : Int), y1), (true, body)) ↔ Q3 body ∧ (Kq body).c = (ci : Int) ∧ (Kq body).n = y1 := by
      unfold Wi
      simp
     have hrdp : Q3 body → Kq body = rp := fun h => by
      unfold Kq
      rw [if_pos h, hrp]
     obtain ⟨ba7, bc7, hbv7⟩ := J7.sl.len
     have gi7 := XS7.keep J7.gr (by simp)
     rw [hbv7] at gi7
     have lxp := DS.get_lt' g5
     have g57 := XS7.keep (XT7.keep ((X6 []).keep g5 (by simp)) (by simp; omega)) (by simp)
     have w57 := XS7.wrs (XT7.wrs ((X6 []).wrs w5))
     have leS7 := XS7.le
     cases hok7 : decide ((Xw (body, false)).2.2 = false ∧ Xi rp) with
     | false =>
      simp (maxSteps := 4000000) (maxDischargeDepth := 8) only [zq, zg, zD, zI, za, Zf, YA, zf, Xq, zl, zo, Zm, Yg, zN, ze, zr, zU, zj, zK, zR, YU, YJ, Zx, zW, zp, zu, zi, zm, zd, zE, zb, zc, z0, z1, zn, zy, getN, Nat.zero_add, Nat.reduceAdd, Zd, zx, List.length_cons, List.length_nil, zL, zH, Bool.and_self, Bool.and_true, Nat.beq_eq, Nat.ble_eq, Nat.le_refl, if_true, if_false, Bool.not_false, z3, DS.wrC, Cells.size, Cells.fillFrom, Cells.set, Zb, List.nil_append, wrN, zk, zC, Zi, zJ, ZF, Nat.reduceLT, Nat.lt_add_one, t4, t5, t6, t7, t8, GT7, ← hS7]
      exact bad _ YS7 fun h => of_decide_eq_false hok7 (hgood.1 (okl.1 (hsn h.2.2).1).1).1
     | true =>
      have hok7' := of_decide_eq_true hok7
      by_cases hz : (Xw (body, false)).2.1 = []
      case neg =>
       have hz0 : ((0 : Int) < ((Xw (body, false)).2.1.length : Int)) = True := eq_true (by have := List.length_pos_iff.2 hz; omega)
       simp (maxSteps := 4000000) (maxDischargeDepth := 8) only [zq, zg, zD, zI, za, Zf, YA, zf, Xq, zl, zo, Zm, Yg, zY, zN, ze, zr, zU, zj, zK, zR, zV, YU, z8, zF, YJ, ZE, z9, Zx, zW, zp, Zc, zX, zu, zi, zm, zd, zE, zb, zc, z0, z1, zn, zy, zG, Cells.get, getN, Nat.zero_add, Nat.reduceAdd, Zd, zx, List.length_cons, List.length_nil, zL, zH, Bool.and_self, Bool.and_true, Nat.beq_eq, Nat.ble_eq, Nat.le_refl, if_true, if_false, Bool.not_true, z3, DS.wrC, Cells.size, Cells.fillFrom, Cells.set, Zb, List.nil_append, wrN, Nat.add_zero, decide_true, zk, zC, Zi, zJ, ZF, Nat.reduceLT, Nat.lt_add_one, t4, t5, t6, t7, t8, GT7, ← hS7, gi7, hz0]
       exact bad _ YS7 fun h => hz (hgood.1 (okl.1 (hsn h.2.2).1).1).2
      have hz0 : ((0 : Int) < ((Xw (body, false)).2.1.length : Int)) = False := eq_false (by rw [hz]; simp)
      have hgd : Q3 body := hgood.2 ⟨hok7', hz⟩
      have hrp' := hrdp hgd
      by_cases hc : rp.c = (ci : Int)
      case neg =>
       have hc0 : (rp.c = (ci : Int)) = False := eq_false hc
       simp (maxSteps := 4000000) (maxDischargeDepth := 8) only [zq, zg, zD, zI, za, Zf, YA, zf, Xq, zl, zo, Zm, Yg, zY, zN, ze, zr, zU, zj, zK, zR, zV, YU, z8, zF, YJ, ZE, z9, Zx, zW, zp, Zc, zX, zu, zi, zm, zd, zE, zb, zc, z0, z1, zn, zy, zG, Cells.get, getN, Nat.zero_add, Nat.reduceAdd, Zd, zx, List.length_cons, List.length_nil, zL, zH, Bool.and_self, Bool.and_true, Nat.beq_eq, Nat.ble_eq, Nat.le_refl, if_true, if_false, Bool.not_true, Bool.not_false, z3, DS.wrC, Cells.size, Cells.fillFrom, Cells.set, Zb, List.nil_append, wrN, Nat.add_zero, decide_false, zk, zC, Zi, zJ, ZF, Nat.reduceLT, Nat.lt_add_one, t4, t5, t6, t7, t8, GT7, ← hS7, gi7, hz0, g7, hc0]
       exact bad _ YS7 fun h => hc (by have := (okl.1 (hsn h.2.2).1).2.1; rw [hrp'] at this; exact this)
      have hc0 : (rp.c = (ci : Int)) = True := eq_true hc
      by_cases hn : rp.n = y1
      case neg =>
       have hn0 : (rp.n = y1) = False := eq_false hn
       simp (maxSteps := 4000000) (maxDischargeDepth := 8) only [zq, zg, zD, zI, za, Zf, YA, zf, Xq, zl, zo, Zm, zY, zN, ze, zr, zU, zj, zK, zR, zV, YU, z8, zF, YJ, ZE, z9, Zx, zW, zp, Zc, zX, zu, zi, zm, zd, zE, zb, zc, z0, z1, zn, zy, zG, Cells.get, getN, Nat.zero_add, Nat.reduceAdd, Zd, zx, List.length_cons, List.length_nil, zL, zH, Bool.and_self, Bool.and_true, Nat.beq_eq, Nat.ble_eq, Nat.le_refl, if_true, if_false, Bool.not_true, Bool.not_false, z3, DS.wrC, Cells.size, Cells.fillFrom, Cells.set, Zb, wrN, Nat.add_zero, decide_true, decide_false, zk, zC, Zi, zJ, ZF, Nat.reduceLT, Nat.lt_add_one, t4, t5, t6, t7, t8, GT7, ← hS7, gi7, hz0, g7, hc0, g57, hn0]
       exact bad _ YS7 fun h => hn (by have := (okl.1 (hsn h.2.2).1).2.2; rw [hrp'] at this; exact this)
      have hn0 : (rp.n = y1) = True := eq_true hn
      have okx : Wi (((ci : Int), y1), (true, body)) := okl.2 ⟨hgd, by rw [hrp']; exact hc, by rw [hrp']; exact hn⟩
      have hld7 : ldA 6 (.pointer (some ⟨T7.next, 0, none⟩)) S7 = some (.agg ⟨[.int .i64 rp.c, .int .i64 rp.n, .bool rp.rej, .int .i64 rp.trap, .int .i64 rp.v, .int .i64 rp.gas]⟩) := by
       simp only [ldA, DS.read, g7]
       rfl
      obtain ⟨S8, hS8⟩ : ∃ S8 : DS, S8 = S7.upd xp (.cells (.list [.bool true, .int .i64 y1, .bool true, .int .i64 rp.c, .int .i64 rp.n, .bool rp.rej, .int .i64 rp.trap, .int .i64 rp.v, .int .i64 rp.gas]) false) := ⟨_, rfl⟩
      have X8 : Ext [xp] S7 S8 := by rw [hS8]; exact Ext.upd (.inl (by simp))
      have g8 : S8.get xp = some (.cells (.list [.bool true, .int .i64 y1, .bool true, .int .i64 rp.c, .int .i64 rp.n, .bool rp.rej, .int .i64 rp.trap, .int .i64 rp.v, .int .i64 rp.gas]) false) := by rw [hS8, DS.upd_get_self, g57]; rfl
      simp (maxSteps := 4000000) (maxDischargeDepth := 8) only [zq, zg, zD, zO, za, zf, zl, zo, Zm, zY, zt, ze, zr, zU, zj, zK, zR, zV, YU, z8, zF, YJ, ZE, z9, Zx, zW, zp, Zc, zX, zi, zm, zd, zE, zb, zc, z0, z1, zG, Cells.get, getN, Nat.zero_add, Nat.reduceAdd, Zd, zx, List.length_cons, List.length_nil, zL, zH, Bool.and_self, Bool.and_true, Nat.beq_eq, Nat.ble_eq, Nat.le_refl, if_true, if_false, Bool.not_true, z3, DS.wrC, Cells.size, Cells.fillFrom, Cells.set, Zb, wrN, Yh, Nat.add_zero, decide_true, decide_false, zk, zC, Zi, zJ, ZF, Nat.reduceLT, Nat.lt_add_one, t4, t5, t6, t7, t8, GT7, ← hS7, gi7, hz0, g7, hc0, g57, hn0, w57, hld7, ← hS8]
      clear hS8
      have hold8 : ldA 9 (.pointer (some ⟨xp, 0, none⟩)) S8 = some (.agg ⟨[.bool true, .int .i64 y1, .bool true, .int .i64 rp.c, .int .i64 rp.n, .bool rp.rej, .int .i64 rp.trap, .int .i64 rp.v, .int .i64 rp.gas]⟩) := by
       simp only [ldA, DS.read, g8]
       rfl
      have Y8 : Ext [r] S S8 := YS7.trans X8 (by simp; omega)
      have gq8 : S8.get q = some (.cells (.list (Jl (Go.Dx.Tab.rowOf (Ye l)))) false) := Y8.keep gqS (by simp; exact hqr)
      have wq8 := Y8.wrs wqS
      have I8 := (((I5.keep (X6 []) (by simp) (by simp)).keep XT7 (by simp; omega) (fun k hk => by have := hbl k (b4 k hk); simp; omega)).keep XS7 (by simp) (by simp)).keep X8 (by simp; omega) (fun k hk => by have := hbl k (b4 k hk); simp; omega)
      have hrow : rrC (some (YG (((ci : Int), y1), (true, body)))) = [.bool true, .int .i64 y1, .bool true, .int .i64 rp.c, .int .i64 rp.n, .bool rp.rej, .int .i64 rp.trap, .int .i64 rp.v, .int .i64 rp.gas] := by
       unfold YG
       simp only [if_true]
       rw [hrp']
       rfl
      have hlt : Kw l < (ci : Int) := by omega
      have okn : ZQ (l ++ [(((ci : Int), y1), (true, body))]) := ZQ.snoc.2 ⟨hok, okx, hlt⟩
      have hA := KS okn
      have hfill : (Zb (Zb (Zb (Zb (Zb (Zb (Zb (Zb (Zb (Jl (Go.Dx.Tab.rowOf (Ye l))) (ci * 9) (.bool true)) (ci * 9 + 1) (.int .i64 y1)) (ci * 9 + 2) (.bool true)) (ci * 9 + 3) (.int .i64 rp.c)) (ci * 9 + 4) (.int .i64 rp.n)) (ci * 9 + 5) (.bool rp.rej)) (ci * 9 + 6) (.int .i64 rp.trap)) (ci * 9 + 7) (.int .i64 rp.v)) (ci * 9 + 8) (.int .i64 rp.gas)) = Jl (Go.Dx.Tab.rowOf (Ye (l ++ [(((ci : Int), y1), (true, body))]))) := by
       rw [hA]
       have h0 := CO (Go.Dx.Tab.rowOf (Ye l)) hci64 (some (YG (((ci : Int), y1), (true, body))))
       rw [hrow] at h0
       exact Cells.list.inj h0
      have hle9 : (ci * 9 + 9 ≤ 576) = True := eq_true (by omega)
      simp (maxSteps := 4000000) (maxDischargeDepth := 8) only [zg, za, Zk, zf, ZB, zl, zo, ze, zr, zU, zj, zK, zV, z8, zF, Zx, zp, Zc, zX, zi, zm, zd, zE, zb, zc, z0, z1, Nat.zero_add, Nat.reduceAdd, Zd, zx, List.length_cons, List.length_nil, zL, zH, Bool.and_self, Bool.and_true, Nat.beq_eq, Nat.ble_eq, Nat.blt_eq, if_true, DS.wrC, Cells.size, Cells.fillFrom, Cells.set, Nat.add_zero, Zq, QS, zJ, ZF, Nat.add_assoc, Nat.reduceLT, Nat.lt_add_one, t4, t5, t6, t7, t8, hold8, gq8, wq8, hci64, GO, hle9, hfill, w1']
      obtain ⟨SZ, hSZ⟩ : ∃ SZ : DS, SZ = S8.upd q (.cells (.list (Jl (Go.Dx.Tab.rowOf (Ye (l ++ [(((ci : Int), y1), (true, body))]))))) false) := ⟨_, rfl⟩
      have XZ : Ext [q] S8 SZ := by rw [hSZ]; exact Ext.upd (.inl (by simp))
      have gZ : SZ.get q = some (.cells (.list (Jl (Go.Dx.Tab.rowOf (Ye (l ++ [(((ci : Int), y1), (true, body))]))))) false) := by rw [hSZ, DS.upd_get_self, gq8]; rfl
      rw [← hSZ]
      clear hSZ
      have YZ : Ext [r, q] S SZ := (Y8.weaken (by simp)).trans' (XZ.weaken (by simp))
      refine ⟨n, by omega, ⟨l ++ [(((ci : Int), y1), (true, body))], x4, bv5, by simp; omega, rfl, ?_, ⟨gZ, XZ.wrs wq8⟩, I8.keep XZ (by simp; omega) (fun k hk e => hbq k (b4 k hk) (List.mem_singleton.1 e)), b4, X.trans' YZ, YZ.good G0, B4, L4, htot', okn⟩⟩
      rw [Fk, List.length_append]
      simp (maxSteps := 4000000) only [zb, zc, Nat.reduceEqDiff, z0, Nat.zero_add, List.length_cons, List.length_nil, Bool.and_self, and_self, t4, t5, t6, t7, t8]
theorem GX {s : DS} {bv : Value} {bs : List Int} (hcode : E.fn 7 = some d7) (hintr : E.intr 7 = none) (hv : SlR s bv bs) (hB : IsB bs) (hl : bs.length ≤ 1048576) (hG : s.Good) :
 W (dcall E (d + 6) (.func (.func 7) #[] #[]) [bv] s) fun p => Ext [] s p.2 ∧ ((¬ (Vo bs ∧ ZQ (rdT (bs, false)).1) ∧ ∃ w, p.1 = .tuple #[.pointer w, .bool false]) ∨
  ((Vo bs ∧ ZQ (rdT (bs, false)).1) ∧ ∃ q, p.1 = .tuple #[.pointer (some ⟨q, 0, none⟩), .bool true] ∧ QT p.2 q (Go.Dx.Tab.rowOf (Ye (rdT (bs, false)).1)) ∧ s.next ≤ q)) := by
 have hlf := hR.lf
 have hvl := hv.lt
 obtain ⟨ba, bc, hbv⟩ := hv.len
 refine Zh fun Q hQ => ?_
 rw [zP hintr (show E.fn 7 = some dRu from by rw [← HR]; exact hcode) rfl]
 subst hbv
 obtain ⟨S1, hS1⟩ : ∃ S1 : DS, S1 = (s.new (.cells (.list [.slice ba bs.length bc, .bool false]) false)).new (.cells (.list zT) false) := ⟨_, rfl⟩
 simp (maxSteps := 4000000) (maxDischargeDepth := 8) only [zq, zg, za, zf, zl, zo, ze, ZC, zj, zK, Zl, ZA, zB, zi, zm, zA, zd, zb, zc, z0, zh, List.getElem?_cons_zero, z1, z4, z5, Nat.zero_add, Nat.reduceAdd, YE, zx, List.length_cons, List.length_nil, Bool.and_self, Bool.and_eq_true, Nat.beq_eq, Nat.ble_eq, Nat.reduceLeDiff, and_self, if_true, zM, List.take_zero, List.drop_succ_cons, List.drop_zero, List.nil_append, List.cons_append, pp, pv, zQ, zJ, Nat.reduceLT, Nat.lt_add_one, Nat.succ_pos, dRu, hG, ← hS1]
 have X1 : ∀ F, Ext F s S1 := fun F => by rw [hS1]; exact Ext.new.trans' Ext.new
 have n1 : S1.next = s.next + 2 := by rw [hS1]; rfl
 have gI : S1.get s.next = some (.cells (.list [.slice ba bs.length bc, .bool false]) false) := by rw [hS1]; simp (maxSteps := 4000000) (maxDischargeDepth := 8) only [zQ, zk, zw, zC, Nat.lt_add_one, hG]
 have gZ : S1.get (s.next + 1) = some (.cells (.list zT) false) := by rw [hS1]; simp (maxSteps := 4000000) (maxDischargeDepth := 8) only [zQ, zk, zC, hG]
 have G1 := (X1 []).good hG
 have I1 : YK S1 s.next (.slice ba bs.length bc) bs false := ⟨gI, (X1 []).wrs (hG _ (Nat.le_refl _)).2, hv.keep (X1 []) (by simp), fun h => by have := hvl _ h; omega⟩
 have c1 : QT S1 (s.next + 1) fun _ => none := ⟨by rw [gZ, H0], (X1 []).wrs (hG _ (Nat.le_succ _)).2⟩
 refine W.mono (NG hR (d := d + 1) I1 G1 hB hl) ?_
 rintro ⟨v4, s4⟩ ⟨bv4, R4, I4, X4, b4⟩
 simp only at R4 I4 X4 b4
 have R4 : v4 = _ := R4
 subst R4
 have hrg := Wu (size := 2) (most := 4096) (bs, false) hB (by decide) (by decide)
 obtain ⟨k4, hk4⟩ := (Zo 2 4096).suf (bs, false)
 obtain ⟨st4, hst4⟩ : ∃ st4, st4 = (rdN 2 4096 (bs, false)).2 := ⟨_, rfl⟩
 obtain ⟨N, hN⟩ : ∃ N : Nat, ((N : Nat) : Int) = (rdN 2 4096 (bs, false)).1 := ⟨(rdN 2 4096 (bs, false)).1.toNat, Int.toNat_of_nonneg hrg.1⟩
 have htot : Yc Vv N [] st4 = rdT (bs, false) := by
  show _ = rdL Vv (bs, false)
  unfold rdL
  rw [← hN, Int.toNat_natCast, hst4]
 rw [← hN] at hrg ⊢
 rw [← hst4] at I4 hk4
 have le4 := X4.le
 have G4 := X4.good G1
 have c4 := c1.keep X4 (by simp)
 have hbv4 : ∀ k, k ∈ blk bv4 → k < s.next := fun k hk => hvl k (b4 k hk)
 simp (maxSteps := 4000000) (maxDischargeDepth := 8) only [zq, zg, za, zf, zl, zo, ze, zK, zi, zm, zd, zb, z1]
 refine Ei hR (d := d) (B := bs.length) c4 I4 (by omega) (fun k hk => by have := hbv4 k hk; omega) G4 (by rw [hk4]; exact hB.drop k4) (by rw [hk4]; simp) hl (by omega) htot (by simp (maxSteps := 4000000) only [zb, zc, Nat.reduceEqDiff, z0]) (by simp (maxSteps := 4000000) only [zb, zc, Nat.reduceEqDiff, z0]) (by simp (maxSteps := 4000000) only [zb, zc, Nat.reduceEqDiff, z0]) (by simp (maxSteps := 4000000) only [zb]) ?_
 rintro p ⟨Xp, hp⟩
 refine hQ p ⟨((X1 []).trans X4 (by simp)).trans Xp (by simp), ?_⟩
 rcases hp with ⟨h1, h2⟩ | ⟨h1, h2, h3⟩
 · exact .inl ⟨fun h => h1 ⟨h.1.1, h.1.2, h.2⟩, h2⟩
 · exact .inr ⟨⟨⟨h1.1, h1.2.1⟩, h1.2.2⟩, _, h2, h3, by omega⟩
end
end Go.Dx.TbA
