/- A part. -/
import Derived.Test.YtpfkbiaikfbpeaaGreatQ1Ha
import Derived.Test.YtpfkbiaikfbpeaaGreatQ1Cd
import Derived.Test.YtpfkbiaikfbpeaaGreatQ1Bl
set_option linter.unusedVariables false
set_option linter.unusedSimpArgs false
set_option linter.unusedSectionVars false
set_option maxRecDepth 100000
set_option maxHeartbeats 4000000
namespace Go.Dx.RpA
open Go Go.Dx Go.Dx.Search Go.Dx.St Go.Proofs.YtpfkbiaikfbpeaaGreat
theorem Zv.of_get {α : Type} {E : Env} {n m : Nat} {s s' : DS} {v : Value} {Rep : Nat → DS → Value → α → Prop} {Ok : α → Prop} {enc : α → List Int} (h : Zv E n m s v Rep Ok enc) (e : ∀ k, s'.get k = s.get k) (hn : s.next ≤ s'.next) : Zv E n m s' v Rep Ok enc := by
 obtain ⟨f, a, b, g, a', b', D, h1, h2, h3, h4⟩ := h
 exact ⟨f, a, b, g, a', b', D, h1, fun p hp => (e _).trans (h2 p hp), fun p hp => ⟨(h3 p hp).1, Nat.lt_of_lt_of_le (h3 p hp).2 hn⟩, h4⟩
structure Dw (E : Env) : Prop where
 f57 : E.fn 128 = some d128
 i57 : E.intr 128 = none
 f60 : E.fn 131 = some d131
 i60 : E.intr 131 = none
 f59 : E.fn 130 = some d130
 i59 : E.intr 130 = none
 f81 : E.fn 167 = some d167
 i81 : E.intr 167 = none
 f58 : E.fn 129 = some d129
 i58 : E.intr 129 = none
 f79 : E.fn 165 = some d165
 i79 : E.intr 165 = none
 f56 : E.fn 127 = some d127
 i56 : E.intr 127 = none
 f76 : E.fn 162 = some d162
 i76 : E.intr 162 = none
 f38 : E.fn 95 = some d95
 i38 : E.intr 95 = none
 f42 : E.fn 94 = some d94
 i42 : E.intr 94 = none
 f63 : E.fn 126 = some d126
 i63 : E.intr 126 = none
 f18 : E.fn 48 = some d48
 i18 : E.intr 48 = none
 fr : ∀ d, ZM (dcall E d)
abbrev Cd := Int × List Ent
def Sv : Nat → DS → Value → Cd → Prop := GY Vw (GZ 2 (GY Vw Vw))
theorem Su : XM Sv := KY Wc (JP (KY Wc Wc))
def M6 (x : Cd) : Prop := Jt 2 65535 x.1 ∧ (x.2.length ≤ 4096 ∧ ∀ y, y ∈ x.2 → Jt 8 0 y.1 ∧ Jt 8 0 y.2)
def D4 (y : Ent) : List Int := leB y.1 8 ++ leB y.2 8
def Rh (x : Cd) : List Int := leB x.1 2 ++ (leB x.2.length 2 ++ Xr D4 x.2)
section
variable {E : Env} (hC : CFns E) (hP : Dw E) {s : DS} {d : Nat}
include hC hP
theorem Pr (hG : s.Good) : W (dcall E (d + 3) (.func (.func 95) #[] #[]) [] s) fun r => Zv E 6 s.next r.2 r.1 Sv M6 Rh ∧ Ext [] s r.2 := by
 refine Zz fun Q hQ => ?_
 rw [zF hP.i38 hP.f38 rfl]
 simp (maxSteps := 4000000) (maxDischargeDepth := 8) only [zr, zf, zc, zg, zn, zt, ze, Zp, zB, zy, zd, z5, pp, d95, hG]
 have h0 : ∀ o, (s.new o).get s.next = some o := fun o => DS.new_get_self hG
 have w0 : (s.new (.cells (.list [.nilFunc, .nilFunc]) false)).wr s.next = true := (hG _ (Nat.le_refl _)).2
 refine W.mono (G4 hC (m := s.next + 1) (DS.new_good hG) (Nat.le_refl _) hP.f57 hP.i57) ?_
 rintro ⟨v1, s1⟩ ⟨q1, X1⟩
 simp only at q1 X1
 have hG1 := X1.good (DS.new_good hG)
 simp (maxSteps := 4000000) only [zt, ze, zB, zy, zd, z5]
 refine W.mono (JS hC (m := s.next + 1) hG1 X1.le hP.f60 hP.i60) ?_
 rintro ⟨v2, s2⟩ ⟨q2, X2⟩
 simp only at q2 X2
 have hG2 := X2.good hG1
 simp (maxSteps := 4000000) only [zt, ze, zB, zy, zd, z5]
 refine W.mono (JS hC (m := s.next + 1) hG2 (Nat.le_trans X1.le X2.le) hP.f60 hP.i60) ?_
 rintro ⟨v3, s3⟩ ⟨q3, X3⟩
 simp only at q3 X3
 have hG3 := X3.good hG2
 simp (maxSteps := 4000000) only [zt, ze, zB, zl, zy, zd, zb, za, Nat.reduceEqDiff, z0, z1, z4, z5]
 refine W.mono (Gm hC (Nat.le_trans X1.le (Nat.le_trans X2.le X3.le)) hG3 (q2.keep X3) q3 hP.f59 hP.i59 fun ha hb => Dm hC ha hb Wc Wc (fun _ _ _ x h => ⟨x, h⟩) (fun _ _ _ x h => ⟨x, h⟩) hP.f81 hP.i81) ?_
 rintro ⟨v4, s4⟩ ⟨q4, X4⟩
 simp only at q4 X4
 have hG4 := X4.good hG3
 simp (maxSteps := 4000000) only [zt, ze, zB, zl, zy, zd, zb, z1, z4, z5]
 refine W.mono (Gk hC (Nat.le_trans X1.le (Nat.le_trans X2.le (Nat.le_trans X3.le X4.le))) hG4 q4 (by omega) (KY Wc Wc) hP.f58 hP.i58 hP.f79 hP.i79) ?_
 rintro ⟨v5, s5⟩ ⟨q5, X5⟩
 simp only at q5 X5
 have hG5 := X5.good hG4
 simp (maxSteps := 4000000) only [zt, ze, zB, zl, zy, zd, zb, za, Nat.reduceEqDiff, z0, z1, z4, z5]
 have X15 := X2.trans' (X3.trans' (X4.trans' X5))
 refine W.mono (Gn hC (Nat.le_trans X1.le X15.le) hG5 ((q1.keep X15).mono (show 3 ≤ 5 by omega)) q5 hP.f56 hP.i56 fun ha hb => Dn hC ha hb Wc (JP (KY Wc Wc)) (fun _ _ _ x h => ⟨x, h⟩) (fun _ _ v _ h => by
  obtain ⟨l, _, _, h3 | ⟨b, off, sp, c, e1, _⟩, _⟩ := h
  · exact ⟨none, 0, 0, h3.1⟩
  · exact ⟨_, _, _, e1⟩) hP.f76 hP.i76) ?_
 rintro ⟨v6, s6⟩ ⟨q6, X6⟩
 simp only at q6 X6
 have X06 := X1.trans' (X15.trans' X6)
 have g6 := X06.keep (h0 _) (by simp)
 have w6 := X06.wrs w0
 obtain ⟨f, a, b, g, a', b', D, rfl, k2, k3, k4⟩ := q6
 simp (maxSteps := 4000000) (maxDischargeDepth := 8) only [zI, zc, zg, zn, zt, ze, Zi, zi, Yl, z9, zx, zl, zd, zJ, zb, za, z0, z1, zo, zz, Cells.get, getN, Nat.zero_add, Nat.reduceAdd, ZA, zD, List.length_cons, List.length_nil, allOne, zQ, Bool.and_self, Bool.and_true, Nat.beq_eq, Nat.ble_eq, Nat.le_refl, if_true, DS.wrC, Cells.size, Cells.fillFrom, Cells.set, Zd, DS.upd_get_self, Option.map_some, DS.read, Cells.take, zZ, Nat.lt_add_one, Nat.succ_pos, g6, w6]
 have X7 : ∀ o, Ext [] s (s6.upd s.next o) := fun o => (Ext.new.trans' X06).trans (Ext.upd (F := [s.next]) (.inl (by simp))) (by simp)
 refine hQ _ ⟨⟨f, a, b, g, a', b', D, rfl, fun p hp => ?_, fun p hp => ?_, k4⟩, X7 _⟩
 · have := (k3 p hp).1
   simp only [DS.new_next] at this
   simp (maxSteps := 4000000) (maxDischargeDepth := 8) only [z0, DS.upd_get_ne, k2 p hp, show ¬ p.1 = s.next by omega]
 · have := k3 p hp
   simp only [DS.new_next] at this
   simp (maxSteps := 4000000) (maxDischargeDepth := 8) only [DS.upd_next]
   omega
def MO : DCode := (.seq (.region [pv 4 17]) (.region [pv 5 18]))
def Ng : DCode := (.block 1 (.region [pp 19 (.fadr 1 (tm 3)), pp 20 (.ld none (tm 19)), pv 21 4, pv 22 5, pp 23 (.build [.int .i64 0, .int .i64 0] [(0, 1, .tmp 21), (1, 1, .tmp 22)]), pp 24 (.bslice 1 2 [.int .i64 0, .int .i64 0] [(0, 2, .tmp 23)]), pp 25 (.bapp 16 2 (tm 20) (tm 24)), pp 26 (.fadr 1 (tm 3)), ⟨none, .st 1 (tm 26) (tm 25), none, [], false⟩]))
def Qn (L : List Ent) : List (List Value) := L.map fun x => [.int .i64 x.1, .int .i64 x.2]
omit hC hP in
theorem K5 (L : List Ent) : ZR 2 (Qn L) := ⟨fun x hx => by obtain ⟨y, _, rfl⟩ := List.mem_map.1 hx; rfl, fun x hx => by obtain ⟨y, _, rfl⟩ := List.mem_map.1 hx; rfl⟩
omit hC hP in
theorem F5 (L : List Ent) : (Qn L).length = L.length := List.length_map ..
structure MZ (U : DS) (n3 y1 : Nat) (room : Int) (tt : PT Value) (A B : DCode) (L : List Ent) (i : Nat) (S : DS) : Prop where
 ex : ∃ bw, Ext [n3, y1] U S ∧ S.get n3 = some (.cells (.list [.int .i64 room, bw]) false) ∧ SlC S 2 bw (Qn (L.take i)) ∧ (∀ k, k ∈ blk bw → U.next ≤ k) ∧ S.get y1 = some (Kj tt [17, 18] A B)
def QG (room : Int) (L : List Ent) : List Int := Rh (room, L)
variable (hF : Fns E) (hI : Its E) {p : Nat} {kv vv : Value} {L : List Ent} {room : Int}
include hF hI
theorem PS (c : Qd s p kv vv L room) (hG : s.Good) (hroom : 0 ≤ room ∧ room ≤ 65535) (hl : L.length ≤ 4096) :
 W (dcall E (d + 12) (.func (.func 48) #[] #[]) [.pointer (some ⟨p, 0, none⟩)] s) fun r => SlV r.2 1 r.1 (Zy (QG room L)) ∧ (∃ a, r.1 = .slice a (QG room L).length (QG room L).length ∧ ∀ z, a = some z → z.spot = none) ∧ (∀ k, k ∈ blk r.1 → s.next ≤ k ∧ k < r.2.next) ∧ Ext [] s r.2 := by
 have hlf := hF.lf
 have hlen := c.len
 have hlt := c.lt
 have gp := c.gp
 have hpl := hlt p (List.mem_cons_self ..)
 obtain ⟨A, hA⟩ : ∃ A, A = MO := ⟨_, rfl⟩
 obtain ⟨B, hB⟩ : ∃ B, B = Ng := ⟨_, rfl⟩
 refine Zz fun Q hQ => ?_
 rw [zF hP.i18 hP.f18 rfl]
 simp (maxSteps := 4000000) (maxDischargeDepth := 8) only [zr, zf, zA, Zq, zO, zc, zg, zn, zt, zv, ze, zu, Zi, Z3, ZF, zi, zM, Z8, Za, ZG, zH, Zh, Yl, Zp, zB, zm, Zl, zl, zk, zy, zd, zJ, zb, za, z0, zq, List.getElem?_cons_zero, z1, z4, z5, zC, Cells.get, getN, Nat.zero_add, Nat.reduceAdd, ZA, Zg, zD, List.length_cons, List.length_nil, allOne, zQ, Bool.and_self, Bool.and_true, Bool.and_eq_true, Nat.beq_eq, Nat.ble_eq, Nat.reduceLeDiff, Nat.le_refl, and_self, if_true, if_false, Bool.not_false, z3, DS.wrC, Cells.size, Cells.fillFrom, Cells.set, Zd, zL, List.take_zero, List.drop_succ_cons, List.drop_zero, List.nil_append, List.cons_append, pp, pv, DS.upd_next, z7, wrN, zw, zK, Yq, zZ, Xw, Nat.reduceLT, Nat.succ_pos, d48, gp, N7 hI, hG, hpl]
 refine Nh (by simp (maxSteps := 4000000) only [zl, zb, z1]; rfl) ?_
 simp (maxSteps := 4000000) (maxDischargeDepth := 8) only [Nat.reduceAdd, DS.upd_next, z7, Nat.add_assoc]
 obtain ⟨T, hT⟩ : ∃ T : DS, T = ((s.new (.cells (.list [.int .i64 0, .slice none 0 0]) false)).upd s.next (.cells (.list [.int .i64 room, .slice none 0 0]) false)).new (.cells (.list [.pointer (some ⟨p, 0, none⟩)]) false) := ⟨_, rfl⟩
 rw [← hT]
 have XT : Ext [] s T := by rw [hT]; exact (Ext.new.trans (Ext.upd (F := [s.next]) (.inl (by simp))) (by simp)).trans' Ext.new
 have nT : T.next = s.next + 2 := by rw [hT]; simp (maxSteps := 4000000) (maxDischargeDepth := 8) only [Nat.reduceAdd, DS.upd_next, z7, Nat.add_assoc]
 have hGT := XT.good hG
 have T0 : T.get s.next = some (.cells (.list [.int .i64 room, .slice none 0 0]) false) := by rw [hT]; simp (maxSteps := 4000000) (maxDischargeDepth := 8) only [DS.upd_get_self, DS.upd_next, Option.map_some, z7, zw, zE, zK, DS.upd_good, Nat.lt_add_one, hG]
 have T1 : T.get (s.next + 1) = some (.cells (.list [.pointer (some ⟨p, 0, none⟩)]) false) := by rw [hT]; simp (maxSteps := 4000000) (maxDischargeDepth := 8) only [DS.upd_next, z7, zw, zK, DS.upd_good, hG]
 generalize hO : Kj _ _ _ _ = O
 obtain ⟨tt, hO2, t3⟩ : ∃ tt, O = Kj tt [17, 18] A B ∧ tt.get 3 = some (.pointer (some ⟨s.next, 0, none⟩)) := ⟨_, by rw [hA, hB]; exact hO.symm, by simp (maxSteps := 4000000) only [zb, za, Nat.reduceEqDiff, z0]⟩
 obtain ⟨U, hU⟩ : ∃ U : DS, U = (T.new .dfr).new O := ⟨_, rfl⟩
 rw [← hU]
 have XU : Ext [] T U := by rw [hU]; exact Ext.new.trans' Ext.new
 have nU : U.next = s.next + 4 := by rw [hU]; simp (maxSteps := 4000000) (maxDischargeDepth := 8) only [Nat.reduceAdd, z7, Nat.add_assoc, nT]
 have U3 : U.get (s.next + 3) = some O := by rw [hU]; simp (maxSteps := 4000000) (maxDischargeDepth := 8) only [Nat.reduceAdd, z7, zw, zK, Nat.add_assoc, hGT, nT]
 have U2 : U.get (s.next + 2) = some .dfr := by rw [hU]; simp (maxSteps := 4000000) (maxDischargeDepth := 8) only [Nat.reduceAdd, z7, zw, zE, zK, Nat.add_assoc, Nat.lt_add_one, hGT, nT]
 have XsU : Ext [] s U := XT.trans' XU
 have hGU := XsU.good hG
 have wU : ∀ k, U.wr (s.next + k) = true := fun k => XsU.wrs (hG _ (Nat.le_add_right _ _)).2
 have U0 := XU.keep T0 (by simp)
 have U1 := XU.keep T1 (by simp)
 have cU := c.keep XsU (by simp)
 have hown : ∀ k, k ∈ own p kv vv → k ∉ [s.next, s.next + 3] := fun k hk => by have := hlt k hk; simp; omega
 refine W.mono (RM hI (d := d + 10) (J := MZ U s.next (s.next + 3) room tt A B L) (Stop := fun _ => False) (p := p) (kv := kv) (vv := vv) (room := room)
  (fun i S h => by obtain ⟨kw, XS, _⟩ := h; exact ⟨cU.keep XS hown, XS.keep U1 (by simp)⟩) ?_ ⟨_, .refl, U0, by simpa [Qn] using SlC.nil, by simp [blk], U3.trans (by rw [hO2])⟩ (by omega)) ?_
 · rintro i x S hx ⟨bw, XS, gk, sk, bk, gy⟩
   have hi := (List.getElem?_eq_some_iff.1 hx).1
   have wS : ∀ k, S.wr (s.next + k) = true := fun k => XS.wrs (wU k)
   have wS0 := wS 0
   rw [Nat.add_zero] at wS0
   have hGS := XS.good hGU
   have hnS := XS.le
   have hlS := DS.get_lt' gk
   refine PQ gy rfl ?_
   simp (maxSteps := 4000000) only [zr, zf, zc, zg, zn, zt, ze, zM, zl, zd, zb, za, Nat.reduceEqDiff, z0, z1, pv, Gf, Vn, CQ hA, MO]
   refine Rt gy (wS 3) ?_
   simp (maxSteps := 4000000) (maxDischargeDepth := 8) only [zf, Zq, zt, ze, zu, Z3, Qb, zi, zM, ZG, zH, Zh, zm, zl, zd, zb, za, z0, z1, zC, Cells.get, getN, Nat.zero_add, Nat.reduceAdd, Zg, zD, List.length_cons, List.length_nil, Bool.and_self, Bool.and_eq_true, Nat.beq_eq, Nat.ble_eq, Nat.reduceLeDiff, Nat.le_refl, and_self, if_true, zL, List.take_zero, List.take_succ_cons, List.drop_succ_cons, List.drop_zero, List.nil_append, List.cons_append, List.drop_nil, List.append_nil, pp, pv, DS.upd_get_ne, DS.upd_next, Dv, Q4, repeatZ, Nat.reduceMul, Qb, zZ, Z0, Nat.reduceLT, Nat.lt_add_one, Nat.succ_pos, CQ hB, Ng, t3, gk, hGS, hlS]
   obtain ⟨S1, hS1⟩ : ∃ S1 : DS, S1 = ((S.upd (s.next + 3) (.loop .busy .normal tt [17, 18] A B)).new (.cells (.list [.int .i64 x.1, .int .i64 x.2]) false)) := ⟨_, rfl⟩
   have X1 : Ext [s.next + 3] S S1 := by rw [hS1]; exact (Ext.upd (.inl (by simp))).trans' Ext.new
   have n1 : S1.next = S.next + 1 := by rw [hS1]; simp (maxSteps := 4000000) (maxDischargeDepth := 8) only [DS.upd_next, z7]
   have g1 : S1.get S.next = some (.cells (.list [.int .i64 x.1, .int .i64 x.2]) false) := by rw [hS1]; simp (maxSteps := 4000000) (maxDischargeDepth := 8) only [DS.upd_next, zw, DS.upd_good, hGS]
   have y1 : S1.get (s.next + 3) = some (.loop .busy .normal tt [17, 18] A B) := by
    rw [hS1]
    simp (maxSteps := 4000000) (maxDischargeDepth := 8) only [DS.upd_get_self, DS.upd_next, Option.map_some, zE, gy, show s.next + 3 < S.next by omega]
   have hkn : ∀ k, k ∈ blk bw → k ∉ [s.next + 3] := fun k hk => by have := bk k hk; simp; omega
   have hw : SlV S1 2 (.slice (some ⟨S.next, 0, none⟩) 1 1) (Qn [x]) := .inr ⟨S.next, 0, none, 1, rfl, by unfold DS.read; rw [g1]; rfl⟩
   have hlt2 : ((Qn (L.take i)).length + (Qn [x]).length) ≤ 5001 := by simp [Qn]; omega
   rw [← hS1]
   refine W.mono (K8 (sk.keep X1 hkn) hw (K5 _) (K5 [x]) (X1.good hGS) (by omega) (by omega)) ?_
   rintro ⟨kw2, S2⟩ ⟨sk2, X2, b2, _⟩
   simp only at sk2 X2 b2
   have k1 := X1.keep gk (by simp)
   have hkn2 : s.next ∉ blk bw := fun h => by have := bk _ h; omega
   have hkn3 : s.next + 3 ∉ blk bw := fun h => by have := bk _ h; omega
   have k2 := X2.keep k1 hkn2
   have y2 := X2.keep y1 hkn3
   have w2 : ∀ k, S2.wr (s.next + k) = true := fun k => X2.wrs (X1.wrs (wS k))
   have w20 := X2.wrs (X1.wrs wS0)
   obtain ⟨a2, c2, hk2⟩ := sk2.shape
   subst hk2
   simp (maxSteps := 4000000) (maxDischargeDepth := 8) only [Zo, zg, zn, zt, ze, zu, Zi, zi, zH, Yl, zm, zl, zd, zJ, zb, za, z0, z1, Nat.zero_add, Nat.reduceAdd, ZA, YD, List.length_cons, List.length_nil, allOne, zQ, Bool.and_self, Bool.and_true, Nat.beq_eq, Nat.ble_eq, Nat.le_refl, if_true, DS.wrC, Cells.size, Cells.fillFrom, Cells.set, Zd, List.length_append, zZ, Nat.reduceLT, Nat.lt_add_one, k2, w2, w20, t3]
   refine Rs (p := .normal) (t3 := tt) (ps3 := [17, 18]) (a3 := A) (b3 := B) ?_ ?_ ?_
   · simp (maxSteps := 4000000) (maxDischargeDepth := 8) only [z0, DS.upd_get_ne, Xw, Z0, Nat.succ_pos, y2]
   · simp (maxSteps := 4000000) (maxDischargeDepth := 8) only [DS.upd_wr, w2]
   have htake : Qn (L.take (i + 1)) = Qn (L.take i) ++ Qn [x] := by unfold Qn; rw [List.take_add_one, List.map_append]; simp [hx]
   have hb2 : ∀ k, k ∈ blk (.slice a2 (Qn (L.take i) ++ Qn [x]).length c2) → U.next ≤ k := fun k hk => by
    rcases b2 k hk with h | h
    · exact bk k h
    · omega
   refine .inl ⟨rfl, .slice a2 (Qn (L.take i) ++ Qn [x]).length c2, ?_, ?_, ?_, hb2, ?_⟩
   · exact (((XS.trans' (X1.weaken (by simp))).trans X2 fun k hk => .inr (bk k hk)).trans' (Ext.upd (.inl (by simp)))).trans' (Ext.upd (.inl (by simp)))
   · simp (maxSteps := 4000000) (maxDischargeDepth := 8) only [z0, if_true, DS.upd_get_self, DS.upd_get_ne, Option.map_some, List.length_append, zZ, Z0, Nat.succ_pos, k2]
   · rw [htake]
     refine sk2.of fun k hk => ?_
     have := hb2 k hk
     simp (maxSteps := 4000000) (maxDischargeDepth := 8) only [z0, Bool.true_and, true_and, if_true, DS.upd_get_ne, DS.upd_wr, show ¬ k = s.next by omega, show ¬ k = s.next + 3 by omega]
     exact fun h => h
   · simp (maxSteps := 4000000) (maxDischargeDepth := 8) only [z0, if_true, DS.upd_get_self, DS.upd_get_ne, Option.map_some, Xw, Z0, Nat.succ_pos, y2]
     rfl
 rintro ⟨vv2, r⟩ (⟨bw, XR, gk, sk, bk, gy⟩ | h)
 · simp only at XR gk sk bk gy
   have wR : ∀ k, r.wr (s.next + k) = true := fun k => XR.wrs (wU k)
   refine Dj gy (.inl rfl) (wR 3) ?_
   have hlr := DS.get_lt' gk
   obtain ⟨ab, cb, hbw⟩ := sk.shape
   rw [List.take_length] at sk hbw
   rw [F5] at hbw
   simp (maxSteps := 4000000) (maxDischargeDepth := 8) only [zr, zf, zc, Zo, W5, KO, YN, zu, zi, zB, zl, zy, zd, zb, za, z0, z1, z5, Cells.get, getN, List.nil_append, DS.upd_get_ne, DS.upd_next, Q3, ldA, foot, DS.read, Cells.take, zZ, Z0, Nat.reduceLT, Nat.succ_pos, gk, hlr]
   obtain ⟨V, hV⟩ : ∃ V : DS, V = r.upd (s.next + 3) (.loop .exhausted .normal tt [17, 18] A B) := ⟨_, rfl⟩
   rw [← hV]
   have XF : Ext [s.next, s.next + 3] U V := by rw [hV]; exact XR.trans' (Ext.upd (.inl (by simp)))
   have XsV : Ext [] s V := XsU.trans XF (by simp)
   have hGV := XsV.good hG
   have nV : V.next = r.next := by rw [hV]; simp (maxSteps := 4000000) (maxDischargeDepth := 8) only [DS.upd_next]
   have skV : SlC V 2 bw (Qn L) := by
    rw [hV]
    exact sk.keep (Ext.upd (F := [s.next + 3]) (.inl (by simp))) fun k hk => by have := bk k hk; simp; omega
   have V2 := XF.keep U2 (by simp)
   have wV := XF.wrs (wU 2)
   refine W.masked (hP.fr _) (Pr hC hP (d := d + 8) (XW hGV fun k hk => ?_)) ?_
   · rw [nV] at hk
     exact ⟨by (simp only [hidden, shielded, noteAt, Z7, Bool.or_false, Bool.or_eq_false_iff, Bool.and_eq_false_iff, YB, YO, YW, true_and, and_true, true_or, or_true] <;> omega), by (simp only [hidden, shielded, noteAt, Z7, Bool.or_false, Bool.or_eq_false_iff, Bool.and_eq_false_iff, YB, YO, YW, true_and, and_true, true_or, or_true] <;> omega)⟩
   rintro v1 s1 ⟨q1, X1⟩ df
   simp only at q1 X1
   have hsame : ∀ k, (YE V s1).get k = s1.get k := fun k => Qf (by (simp only [hidden, shielded, noteAt, Z7, Bool.or_false, Bool.or_eq_false_iff, Bool.and_eq_false_iff, YB, YO, YW, true_and, and_true, true_or, or_true] <;> omega)) X1
   have X1' := Ext.unmask' X1 df
   have q1' := Zv.of_get (s' := YE V s1) q1 hsame (Nat.le_refl _)
   have hGW := X1'.good hGV
   have skW := skV.keep X1' (by simp)
   have W2' := X1'.keep V2 (by simp)
   simp (maxSteps := 4000000) only [W5, Xp, zB, zl, zy, zd, zb, za, Nat.reduceEqDiff, z0, z1, z4, z5, List.nil_append, List.cons_append, Mw, foot]
   subst hbw
   show W (dcall E (((d + 3) + 6 + 1) + 1) _ _ _) _
   have hrep : Sv (YE V s1).next (YE V s1) (.agg ⟨[.int .i64 room, .slice ab L.length cb]⟩) (room, L) := by
    refine ⟨.int .i64 room, .slice ab L.length cb, rfl, rfl, Qn L, F5 L, K5 L, ?_, ?_⟩
    · rcases skW.view (K5 L) with h | ⟨b, off, sp, c', h1, h2⟩
      · exact .inl h
      · refine .inr ⟨b, off, sp, c', h1, ?_, h2⟩
        refine skW.lt b ?_
        rw [h1]; simp [blk]
    · intro i r x hr hx
      have hr : (Qn L)[i]? = some r := hr
      unfold Qn at hr
      rw [List.getElem?_map, hx] at hr
      cases hr
      exact ⟨.int .i64 x.1, .int .i64 x.2, rfl, rfl, rfl⟩
   have hlenE : (Rh (room, L)).length ≤ 1048576 := by
    have hcat : ∀ M : List Ent, (Xr D4 M).length = M.length * 16 := fun M => by
     induction M with
     | nil => rfl
     | cons a M ih => unfold Xr at ih ⊢; rw [List.flatMap_cons, List.length_append, ih]; simp [D4, ZI]; omega
    show (leB room 2 ++ (leB (L.length : Int) 2 ++ Xr D4 L)).length ≤ 1048576
    rw [List.length_append, List.length_append, ZI, ZI, hcat]
    omega
   refine W.mono (F6 (n := 6) (d := d + 3) hC hGW q1' hrep Su ⟨.inr ⟨hroom.1, hroom.2⟩, hl, fun y _ => ⟨.inl rfl, .inl rfl⟩⟩ hlenE rfl hP.f42 hP.i42 hP.f63 hP.i63) ?_
   rintro ⟨v3, s3⟩ ⟨w, hv3, hw1, hw2, hw3, X3⟩
   simp only at hv3 hw1 hw3 X3
   subst hv3
   have W3 := X3.keep W2' (by simp)
   have w3 := X3.wrs (X1'.wrs wV)
   simp (maxSteps := 4000000) only [zr, zf, zI, zc, zg, zn, zt, W5, ze, YN, zu, zi, zM, WS, zm, zl, zd, zb, za, Nat.reduceEqDiff, z0, z1, getN, List.nil_append, List.cons_append, foot]
   rw [GP W3 w3]
   have hX : Ext [] s (s3.rid (s.next + 2)) := (XsV.trans' (X1'.trans' X3)).trans (Ext.rid (F := [s.next + 2]) (.inl (by simp))) (by simp)
   have hle := X1'.le
   have hln : s.next + 4 ≤ V.next := by rw [nV, ← nU]; exact XR.le
   simp (maxSteps := 4000000) only [zi, zb, z1, zo, zz]
   refine hQ _ ⟨hw1.of fun k hk => ?_, hw2, fun k hk => ?_, hX⟩
   · have := (hw3 k hk).1
     exact DS.rid_get_ne (by omega)
   · have := hw3 k hk
     rw [DS.rid_next]
     omega
 · exact absurd h id
end
end Go.Dx.RpA
namespace Go.Dx.RpA
open Go Go.Dx Go.Dx.Search Go.Dx.St Go.Proofs.YtpfkbiaikfbpeaaGreat
section
variable {E : Env} (hC : CFns E) (hP : Dw E) (hF : Fns E) (hI : Its E) (hB : RR E) {s : DS} {d : Nat} {p : Nat} {kv vv : Value} {L : List Ent} {room : Int}
theorem Td (room : Int) (L : List Ent) : (QG room L).length = 4 + L.length * 16 := by
 have hcat : ∀ M : List Ent, (Xr D4 M).length = M.length * 16 := fun M => by
  induction M with
  | nil => rfl
  | cons a M ih => unfold Xr at ih ⊢; rw [List.flatMap_cons, List.length_append, ih]; simp [D4, ZI]; omega
 show (leB room 2 ++ (leB (L.length : Int) 2 ++ Xr D4 L)).length = _
 rw [List.length_append, List.length_append, ZI, ZI, hcat]
 omega
include hC hP hF hI hB
theorem Ty (c : Qd s p kv vv L room) (hG : s.Good) (hroom : 0 ≤ room ∧ room ≤ 65535) (hl : L.length ≤ 4096) (hlf : 4 + L.length * 16 < E.lf) (fDg : E.fn 28 = some d28) (iDg : E.intr 28 = none) :
 W (dcall E (d + 13) (.func (.func 28) #[] #[]) [.pointer (some ⟨p, 0, none⟩)] s) fun r => r.1 = .agg ⟨QE [QG room L]⟩ ∧ Ext [] s r.2 := by
 refine Zz fun Q hQ => ?_
 rw [zF iDg fDg rfl]
 simp (maxSteps := 4000000) (maxDischargeDepth := 8) only [zr, zf, zA, zO, zc, zg, zn, zt, zv, ze, ZF, zi, zM, Z8, Zp, zB, Zl, zl, zk, zy, zd, zb, za, z0, zq, List.getElem?_cons_zero, z1, z4, z5, if_false, Bool.not_false, z3, pp, pv, zZ, Nat.succ_pos, d28, hG]
 obtain ⟨S1, hS1⟩ : ∃ S1 : DS, S1 = s.new (.cells (.list [.int .u8 0, .int .u8 0, .int .u8 0, .int .u8 0, .int .u8 0, .int .u8 0, .int .u8 0, .int .u8 0, .int .u8 0, .int .u8 0, .int .u8 0, .int .u8 0, .int .u8 0, .int .u8 0, .int .u8 0, .int .u8 0, .int .u8 0, .int .u8 0, .int .u8 0, .int .u8 0, .int .u8 0, .int .u8 0, .int .u8 0, .int .u8 0, .int .u8 0, .int .u8 0, .int .u8 0, .int .u8 0, .int .u8 0, .int .u8 0, .int .u8 0, .int .u8 0]) false) := ⟨_, rfl⟩
 rw [← hS1]
 rw [show ([.int .u8 0, .int .u8 0, .int .u8 0, .int .u8 0, .int .u8 0, .int .u8 0, .int .u8 0, .int .u8 0, .int .u8 0, .int .u8 0, .int .u8 0, .int .u8 0, .int .u8 0, .int .u8 0, .int .u8 0, .int .u8 0, .int .u8 0, .int .u8 0, .int .u8 0, .int .u8 0, .int .u8 0, .int .u8 0, .int .u8 0, .int .u8 0, .int .u8 0, .int .u8 0, .int .u8 0, .int .u8 0, .int .u8 0, .int .u8 0, .int .u8 0, .int .u8 0] : List Value) = z6 .u8 32 from rfl] at hS1
 have X1 : Ext [] s S1 := by rw [hS1]; exact Ext.new
 have hG1 := X1.good hG
 have gD1 : S1.get s.next = some (.cells (.list (z6 .u8 32)) false) := by rw [hS1]; simp (maxSteps := 4000000) (maxDischargeDepth := 8) only [zw, hG]
 have wD1 : S1.wr s.next = true := X1.wrs (hG _ (Nat.le_refl _)).2
 clear hS1
 refine W.mono (PS hC hP hF hI (c.keep X1 (by simp)) hG1 hroom hl) ?_
 rintro ⟨v2, s2⟩ ⟨hv, hsh, hb, X2⟩
 simp only at hv hsh hb X2
 have hR := SlR.of hv hsh
 have hG2 := X2.good hG1
 have gD2 := X2.keep gD1 (by simp)
 have wD2 := X2.wrs wD1
 obtain ⟨a, hv2, _⟩ := hsh
 have hcell : v2.cells.toList = [v2] := by rw [hv2]; rfl
 simp (maxSteps := 4000000) (maxDischargeDepth := 8) only [zt, ze, Qb, zi, zB, zl, zy, zd, zb, z1, z4, z5, Nat.zero_add, List.length_cons, List.length_nil, Bool.and_self, Bool.and_eq_true, Nat.beq_eq, Nat.ble_eq, Nat.reduceLeDiff, Nat.le_refl, and_self, if_true, zL, List.take_zero, List.drop_succ_cons, List.nil_append, List.drop_nil, List.append_nil, Q4, repeatZ, Qb, Nat.mul_one, hG2, hcell]
 have gP : (s2.new (.cells (.list [v2]) false)).get s2.next = some (.cells (.list ([(v2, QG room L)].map Prod.fst)) false) := DS.new_get_self hG2
 have hG3 : (s2.new (.cells (.list [v2]) false)).Good := DS.new_good hG2
 have hpl := Td room L
 refine W.mono (TT hB (d := d + 7) (b := s2.next) (ps := [(v2, QG room L)]) hG3 gP ?_ ?_ ?_ ?_) ?_
 · intro q hq
   obtain rfl := List.mem_singleton.1 hq
   exact hR.keep (Ext.new (F := [])) (by simp)
 · show 1 < E.lf
   omega
 · show 1 ≤ 1000000
   omega
 · intro q hq
   obtain rfl := List.mem_singleton.1 hq
   show (QG room L).length < E.lf
   omega
 rintro ⟨v3, s3⟩ ⟨h3, X3⟩
 simp only at h3 X3
 subst h3
 have hO : U .u8 32 (QE [QG room L]) := V1 _
 have X23 : Ext [] s2 s3 := Ext.new.trans' X3
 have gD3 := X23.keep gD2 (by simp)
 have wD3 := X23.wrs wD2
 show Di _ _ _ _ _ _ (.agg ⟨QE [QG room L]⟩, s3)
 obtain ⟨o, ho⟩ : ∃ o, o = QE [QG room L] := ⟨_, rfl⟩
 rw [← ho] at hO ⊢
 have hfill9 : (Cells.list (z6 .u8 32)).fillFrom 0 o = .list o := by
  rw [Yg _ _ _ (by rw [hO.1]; decide), hO.1]
  simp [z6]
 have hrd : (s3.upd s.next (.cells (.list o) false)).read s.next 0 32 = some o := by
  unfold DS.read
  simp only [DS.upd_get_self, gD3, Option.map_some]
  rw [ZL _ _ _ (by rw [hO.1]; decide)]
  simp only [List.drop_zero]
  rw [List.take_of_length_le (by rw [hO.1]; exact Nat.le_refl _)]
 simp (maxSteps := 4000000) (maxDischargeDepth := 8) only [zI, zc, zg, zn, zt, ze, Zi, zi, Yl, z9, zx, zl, zd, zJ, zb, za, z0, z1, zo, zz, Nat.zero_add, ZA, zD, Bool.and_true, Nat.beq_eq, Nat.ble_eq, Nat.le_refl, if_true, DS.wrC, Cells.size, zZ, Nat.reduceLT, Nat.lt_add_one, gD3, wD3, hO.1, hO.allOne, hfill9, (YP .u8 32).1, hrd]
 refine hQ _ ⟨by rw [ho], ?_⟩
 exact ((X1.trans' X2).trans' X23).trans (Ext.upd (F := [s.next]) (.inl (by simp))) (by simp)
end
end Go.Dx.RpA
namespace Go.Dx.RpA
open Go Go.Dx Go.Dx.Search Go.Dx.St Go.Proofs.YtpfkbiaikfbpeaaGreat
structure CT (E : Env) : Prop where
 fClone : E.fn 47 = some d47
 iClone : E.intr 47 = none
 fFork : E.fn 24 = some d24
 iFork : E.intr 24 = none
 fr : ∀ d, ZM (dcall E d)
section
variable {E : Env} (hK : CT E) {s : DS} {d : Nat} {v : Value} {l : List Int} {p : Nat} {kv vv : Value} {L : List Ent} {room : Int}
include hK
theorem Dy (h : SlC s 1 v (ints l)) (hG : s.Good) (hl : l.length ≤ 1000000) : W (dcall E (d + 1) (.func (.func 47) #[] #[]) [v] s) fun r => SlX r.2 1 r.1 (ints l) ∧ Ext [] s r.2 ∧ ∀ k, k ∈ blk r.1 → s.next ≤ k := by
 refine Zz fun Q hQ => ?_
 rw [zF hK.iClone hK.fClone rfl]
 have hv := h.view (Xh l)
 have hlt := h.lt
 have hil := Xg l
 rcases hv with ⟨rfl, h0⟩ | ⟨b, off, sp, c, rfl, hrd⟩
 · have hl0 : l = [] := by simpa [ints] using h0
   subst hl0
   simp (maxSteps := 4000000) only [zr, zf, zA, zI, zc, ZE, zg, zn, zt, zS, ze, ZF, zi, zM, Z8, Zl, zx, zl, zk, zd, zb, za, z0, zq, List.getElem?_cons_zero, z1, zo, zz, if_false, reduceCtorEq, Bool.not_true, z3, pp, pv, Option.isNone_none, d47]
   exact hQ _ ⟨.nil, .refl, by simp [blk]⟩
 · simp (maxSteps := 4000000) only [zr, zf, zA, zO, zc, zg, zn, zt, zv, ze, ZF, Qb, zi, zM, Z8, Zl, zl, zk, zd, zb, za, Nat.reduceEqDiff, z0, zq, List.getElem?_cons_zero, z1, Nat.ble_eq, Nat.reduceLeDiff, if_false, reduceCtorEq, Bool.not_false, z3, zL, pp, pv, Dv, Q4, repeatZ, Qb, Nat.mul_one, d47]
   refine W.mono (Fg (lx := []) (ly := ints l) (.inr ⟨s.next, none, rfl, .inl rfl, DS.new_get_self hG, (hG _ (Nat.le_refl _)).2⟩) ((h.view (Xh l)).of fun j hj => DS.new_get_lt (hlt j hj)) ZR.nil (Xh l) (DS.new_good hG) (by simp; omega) (by simp; omega)) ?_
   rintro ⟨w3, s3⟩ ⟨x3, X3, b3⟩
   simp only [blk, List.nil_append] at x3 X3 b3
   simp (maxSteps := 4000000) only [zI, zc, zg, zn, zt, ze, zi, zM, zx, zl, zd, zb, z1, zo, zz]
   refine hQ _ ⟨x3, (Ext.new (F := [])).trans X3 (by simp), fun k hk => ?_⟩
   rcases b3 k hk with h | h
   · simp at h; omega
   · have : s.next + 1 ≤ k := h
     omega
theorem PU (c : Qd s p kv vv L room) (hG : s.Good) : W (dcall E (d + 2) (.func (.func 24) #[] #[]) [.pointer (some ⟨p, 0, none⟩)] s) fun r => ∃ p' kv' vv', r.1 = .pointer (some ⟨p', 0, none⟩) ∧ Qd r.2 p' kv' vv' L room ∧ Ext [] s r.2 ∧ ∀ k, k ∈ own p' kv' vv' → s.next ≤ k := by
 have gp := c.gp
 have hpl := DS.get_lt' gp
 have hlen := c.len
 refine Zz fun Q hQ => ?_
 rw [zF hK.iFork hK.fFork rfl]
 have hkl : (L.map (·.1)).length ≤ 1000000 := by rw [List.length_map]; omega
 have hvl : (L.map (·.2)).length ≤ 1000000 := by rw [List.length_map]; omega
 have hkp := c.pk
 have hvp := c.pv
 simp (maxSteps := 4000000) only [zr, zf, zA, zO, zc, zg, zn, zt, W5, KO, zv, ze, YN, zu, ZF, zi, zM, Z8, Za, zH, Zh, zB, zm, Zl, zl, zk, zy, zd, zb, za, Nat.reduceEqDiff, z0, zq, List.getElem?_cons_zero, z1, z4, z5, zC, Cells.get, getN, Nat.zero_add, if_false, reduceCtorEq, Bool.not_false, z3, List.nil_append, List.cons_append, pp, pv, Nat.add_zero, foot, d24, gp]
 refine W.masked (hK.fr _) (Dy hK (d := d) (c.ks.of (s' := mask _ _ _) fun k hk => ?_) (XW hG fun k hk => ?_) hkl) ?_
 · have : ¬ k = p := fun h => hkp (h ▸ hk)
   exact ⟨YT (by (simp only [hidden, shielded, noteAt, Z7, Bool.or_false, Bool.or_eq_false_iff, Bool.and_eq_false_iff, YB, YO, YW, true_and, and_true, true_or, or_true] <;> omega)), fun hw => JU hw (by (simp only [hidden, shielded, noteAt, Z7, Bool.or_false, Bool.or_eq_false_iff, Bool.and_eq_false_iff, YB, YO, YW, true_and, and_true, true_or, or_true] <;> omega)) (by (simp only [hidden, shielded, noteAt, Z7, Bool.or_false, Bool.or_eq_false_iff, Bool.and_eq_false_iff, YB, YO, YW, true_and, and_true, true_or, or_true] <;> omega))⟩
 · exact ⟨by (simp only [hidden, shielded, noteAt, Z7, Bool.or_false, Bool.or_eq_false_iff, Bool.and_eq_false_iff, YB, YO, YW, true_and, and_true, true_or, or_true] <;> omega), by (simp only [hidden, shielded, noteAt, Z7, Bool.or_false, Bool.or_eq_false_iff, Bool.and_eq_false_iff, YB, YO, YW, true_and, and_true, true_or, or_true] <;> omega)⟩
 rintro v1 s1 ⟨x1, X1, b1⟩ df
 simp only at x1 X1 b1
 have X1' := Ext.unmask' X1 df
 have x1' := x1.of (s' := YE s s1) fun k hk => ⟨Qf (by (simp only [hidden, shielded, noteAt, Z7, Bool.or_false, Bool.or_eq_false_iff, Bool.and_eq_false_iff, YB, YO, YW, true_and, and_true, true_or, or_true] <;> omega)) X1, fun hw => by
  rw [X1.wr] at hw
  simp [mask] at hw
  exact hw.1.1⟩
 obtain ⟨S1, hS1⟩ : ∃ S1 : DS, S1 = YE s s1 := ⟨_, rfl⟩
 have n1 : s1.next = S1.next := by rw [hS1]; rfl
 rw [← hS1] at X1' x1'
 have hG1 := X1'.good hG
 have c1 := c.keep X1' (by simp)
 simp (maxSteps := 4000000) only [KO, Xp, zB, zl, zy, zd, zb, za, Nat.reduceEqDiff, z0, z1, z4, z5, List.nil_append, List.cons_append, foot, ← hS1, n1]
 refine W.masked (hK.fr _) (Dy hK (d := d) (c1.vs.of (s' := mask _ _ _) fun k hk => ?_) (XW hG1 fun k hk => ?_) hvl) ?_
 · have : ¬ k = p := fun h => hvp (h ▸ hk)
   exact ⟨YT (by (simp only [hidden, shielded, noteAt, Z7, Bool.or_false, Bool.or_eq_false_iff, Bool.and_eq_false_iff, YB, YO, YW, true_and, and_true, true_or, or_true] <;> omega)), fun hw => JU hw (by (simp only [hidden, shielded, noteAt, Z7, Bool.or_false, Bool.or_eq_false_iff, Bool.and_eq_false_iff, YB, YO, YW, true_and, and_true, true_or, or_true] <;> omega)) (by (simp only [hidden, shielded, noteAt, Z7, Bool.or_false, Bool.or_eq_false_iff, Bool.and_eq_false_iff, YB, YO, YW, true_and, and_true, true_or, or_true] <;> omega))⟩
 · have := X1'.le
   exact ⟨by (simp only [hidden, shielded, noteAt, Z7, Bool.or_false, Bool.or_eq_false_iff, Bool.and_eq_false_iff, YB, YO, YW, true_and, and_true, true_or, or_true] <;> omega), by (simp only [hidden, shielded, noteAt, Z7, Bool.or_false, Bool.or_eq_false_iff, Bool.and_eq_false_iff, YB, YO, YW, true_and, and_true, true_or, or_true] <;> omega)⟩
 rintro v2 s2 ⟨x2, X2, b2⟩ df2
 simp only at x2 X2 b2
 have X2' := Ext.unmask' X2 df2
 have x2' := x2.of (s' := YE S1 s2) fun k hk => ⟨Qf (by (simp only [hidden, shielded, noteAt, Z7, Bool.or_false, Bool.or_eq_false_iff, Bool.and_eq_false_iff, YB, YO, YW, true_and, and_true, true_or, or_true] <;> omega)) X2, fun hw => by
  rw [X2.wr] at hw
  simp [mask] at hw
  exact hw.1.1⟩
 obtain ⟨S2, hS2⟩ : ∃ S2 : DS, S2 = YE S1 s2 := ⟨_, rfl⟩
 have n2 : s2.next = S2.next := by rw [hS2]; rfl
 rw [← hS2] at X2' x2'
 have hG2 := X2'.good hG1
 have x1'' := x1'.keep X2' (by simp)
 have hlt1 := x1'.lt
 have hlt1' := x1''.lt
 have hlt2 := x2'.lt
 obtain ⟨a1, hv1⟩ := x1.shape
 obtain ⟨a2, hv2⟩ := x2.shape
 subst hv1 hv2
 simp (maxSteps := 4000000) only [zI, zc, zg, zn, W5, YN, Xp, Z3, zi, zM, ZG, Z4, zx, zl, zd, zb, za, Nat.reduceEqDiff, z0, z1, zo, zz, Nat.zero_add, Nat.reduceAdd, Zg, YD, zD, List.length_cons, List.length_nil, Bool.and_self, Bool.and_eq_true, Nat.beq_eq, Nat.ble_eq, Nat.reduceLeDiff, Nat.le_refl, and_self, if_true, zL, List.take_zero, List.take_succ_cons, List.drop_succ_cons, List.drop_zero, List.nil_append, List.cons_append, List.drop_nil, List.append_nil, z7, foot, ← hS2, n2]
 have hX : Ext [] s S2 := X1'.trans' X2'
 have hb1 : ∀ k, k ∈ blk (.slice a1 (ints (L.map (·.1))).length (ints (L.map (·.1))).length) → s.next ≤ k := b1
 have hb2 : ∀ k, k ∈ blk (.slice a2 (ints (L.map (·.2))).length (ints (L.map (·.2))).length) → S1.next ≤ k := b2
 have XN : ∀ ob, Ext [] S2 (S2.new ob) := fun ob => Ext.new
 refine hQ _ ⟨S2.next, _, _, rfl, ⟨DS.new_get_self hG2, (hG2 _ (Nat.le_refl _)).2, ?_, ?_, ?_, ?_, ?_, c.so, c.len⟩, hX.trans' Ext.new, ?_⟩
 · exact (x1''.keep (XN _) (by simp)).room (Xh _) (by rw [Xg]; omega)
 · exact (x2'.keep (XN _) (by simp)).room (Xh _) (by rw [Xg]; omega)
 · exact fun hk => Nat.lt_irrefl _ (hlt1' _ hk)
 · exact fun hk => Nat.lt_irrefl _ (hlt2 _ hk)
 · intro k hk hk2
   have h1 := hlt1 k hk
   have h2 := hb2 k hk2
   omega
 · intro k hk
   simp only [own, List.mem_cons, List.mem_append] at hk
   rcases hk with rfl | hk | hk
   · exact hX.le
   · exact hb1 k hk
   · have := hb2 k hk; have := X1'.le; omega
end
end Go.Dx.RpA
