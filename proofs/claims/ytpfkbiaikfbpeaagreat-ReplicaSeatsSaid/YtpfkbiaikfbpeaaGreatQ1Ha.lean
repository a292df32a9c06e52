/- A part. -/
import Derived.Test.YtpfkbiaikfbpeaaGreatDxVa
import Derived.Test.YtpfkbiaikfbpeaaGreatDxC
import Derived.Test.YtpfkbiaikfbpeaaGreatDxSt
set_option linter.unusedVariables false
set_option linter.unusedSimpArgs false
set_option linter.unusedSectionVars false
set_option maxRecDepth 100000
set_option maxHeartbeats 4000000
namespace Go.Dx.RpA
open Go Go.Dx Go.Dx.Search Go.Dx.St Go.Proofs.YtpfkbiaikfbpeaaGreat
structure Fns (E : Env) : Prop where
 fless : E.fn 204 = some (JV 235)
 iless : E.intr 204 = none
 fnan : E.fn 235 = some K2
 inan : E.intr 235 = none
 fnan2 : E.fn 341 = some SL
 inan2 : E.intr 341 = none
 fbs : E.fn 303 = some (NU 204 341)
 ibs : E.intr 303 = none
 ffind : E.fn 281 = some (Re 303)
 ifind : E.intr 281 = none
 fins : E.fn 336 = some d336
 iins : E.intr 336 = some Jm
 fdel : E.fn 335 = some d335
 idel : E.intr 335 = none
 fput : E.fn 282 = some d282
 iput : E.intr 282 = none
 fdrop : E.fn 280 = some d280
 idrop : E.intr 280 = none
 fNew : E.fn 19 = some d19
 iNew : E.intr 19 = none
 fPut : E.fn 248 = some d248
 iPut : E.intr 248 = none
 fGet : E.fn 368 = some d368
 iGet : E.intr 368 = none
 fDelete : E.fn 247 = some d247
 iDelete : E.intr 247 = none
 fLen : E.fn 13 = some d13
 iLen : E.intr 13 = none
 lf : 10000 ≤ E.lf
section
variable {E : Env} (hE : Fns E) {s : DS} {v : Value} {l : List Int} {d : Nat}
include hE
theorem DX (h : SlC s 1 v (ints l)) (hG : s.Good) {i : Nat} (hi : i ≤ l.length) (hl : l.length ≤ 1000000) {x : Int} {kw : Nat} (hg : s.get kw = some (.cells (.list [.int .i64 x]) false)) (hkw : kw ∉ blk v) :
 W (dcall E (d + 1) (.func (.func 336) #[] #[]) [v, .int .i64 (i : Int), .slice (some ⟨kw, 0, none⟩) 1 1] s) fun r => SlC r.2 1 r.1 (ints (QU l i x)) ∧ Ext (blk v) s r.2 ∧ ∀ k, k ∈ blk r.1 → k ∈ blk v ∨ s.next ≤ k := by
 by_cases hil : i < l.length
 · obtain ⟨a, h1, h2⟩ := Pp h hG hil hl hg hkw (sp := none) (cw := 1)
   exact W.intro (J0 hE.iins h1) h2
 · obtain rfl : i = l.length := by omega
   refine Zz fun Q hQ => ?_
   obtain ⟨a, c, rfl⟩ := h.shape
   rw [Xg] at h hkw hQ ⊢
   rw [RO hE.iins (Pq (Nat.le_refl _)) hE.fins rfl]
   obtain ⟨w, e1, _⟩ := Sa h (Xh l) (lo := some (.int .i64 (l.length : Int))) (hi := none) (i := l.length) (j := (ints l).length) rfl rfl (by rw [Xg]; exact Nat.le_refl _) (Nat.le_refl _)
   have hw : SlV s 1 (.slice (some ⟨kw, 0, none⟩) 1 1) (ints [x]) := .inr ⟨kw, 0, none, 1, rfl, by unfold DS.read; rw [hg]; rfl⟩
   have e0 : ¬ ((1 : Nat) : Int) = 0 := by decide
   simp (maxSteps := 4000000) only [zr, zf, zA, zO, zc, zg, zn, zt, zS, zv, ze, zu, zi, zM, zT, Yf, zm, zY, zP, zl, zk, zd, zb, za, Nat.reduceEqDiff, z0, zq, List.getElem?_cons_zero, List.getElem?_cons_succ, z1, if_true, reduceCtorEq, pp, pv, Option.map_some, CO, Dv, Option.map_none, decide_true, decide_false, d336, e1, e0]
   refine W.mono (K8 h hw (Xh l) (Xh [x]) hG ?_ ?_) ?_
   · simp [ints]; omega
   · simp [ints]; omega
   rintro ⟨v1, s1⟩ ⟨h1, h2, h3, _⟩
   simp (maxSteps := 4000000) only [zI, zc, ZE, zg, zn, zt, ze, zi, zM, zx, zl, zd, zb, z1, zo, zz]
   refine hQ _ ⟨?_, h2, h3⟩
   have : ints (QU l l.length x) = ints l ++ ints [x] := by unfold QU ints; simp
   rw [this]; exact h1
end
def FR (L : List Ent) : List (List Value) := ints (L.map (·.1))
def Mg (L : List Ent) : List (List Value) := ints (L.map (·.2))
structure Qd (s : DS) (p : Nat) (kv vv : Value) (L : List Ent) (room : Int) : Prop where
 gp : s.get p = some (.cells (.list [kv, vv, .int .i64 room]) false)
 wp : s.wr p = true
 ks : SlC s 1 kv (FR L)
 vs : SlC s 1 vv (Mg L)
 pk : p ∉ blk kv
 pv : p ∉ blk vv
 kv : ∀ k, k ∈ blk kv → k ∉ blk vv
 so : Lj L
 len : L.length ≤ 5000
def own (p : Nat) (kv vv : Value) : List Nat := p :: (blk kv ++ blk vv)
section
variable {s s' : DS} {p : Nat} {kv vv : Value} {L : List Ent} {room : Int} {F : List Nat}
theorem Qd.keep (c : Qd s p kv vv L room) (e : Ext F s s') (hd : ∀ k, k ∈ own p kv vv → k ∉ F) : Qd s' p kv vv L room :=
 ⟨e.keep c.gp (hd p (List.mem_cons_self ..)), e.wrs c.wp, c.ks.keep e fun k hk => hd k (by simp [own, hk]), c.vs.keep e fun k hk => hd k (by simp [own, hk]), c.pk, c.pv, c.kv, c.so, c.len⟩
theorem Qd.lt (c : Qd s p kv vv L room) : ∀ k, k ∈ own p kv vv → k < s.next := by
 intro k hk
 simp only [own, List.mem_cons, List.mem_append] at hk
 rcases hk with rfl | hk | hk
 · exact DS.get_lt' c.gp
 · exact c.ks.lt k hk
 · exact c.vs.lt k hk
theorem Qd.mask {nt : List Yv} {haz : List Nat} (c : Qd s p kv vv L room) (hq : ∀ k, k ∈ own p kv vv → hidden nt haz k = false ∧ shielded nt haz k = false) : Qd (mask s nt haz) p kv vv L room := by
 have h1 := hq p (List.mem_cons_self ..)
 refine ⟨by rw [YT h1.1]; exact c.gp, JU c.wp h1.1 h1.2, c.ks.of fun k hk => ?_, c.vs.of fun k hk => ?_, c.pk, c.pv, c.kv, c.so, c.len⟩
 · have h2 := hq k (by simp [own, hk])
   exact ⟨YT h2.1, fun hw => JU hw h2.1 h2.2⟩
 · have h2 := hq k (by simp [own, hk])
   exact ⟨YT h2.1, fun hw => JU hw h2.1 h2.2⟩
variable {E : Env} (hE : Fns E) {d : Nat}
include hE
theorem N6 (c : Qd s p kv vv L room) : dcall E (d + 1) (.func (.func 13) #[] #[]) [.pointer (some ⟨p, 0, none⟩)] s = some (.int .i64 (L.length : Int), s) := by
 have gp := c.gp
 obtain ⟨ak, ck, hkv⟩ := c.ks.shape
 have hkl : (FR L).length = L.length := by unfold FR; rw [Xg, List.length_map]
 rw [hkl] at hkv
 rw [← XH, zF hE.iLen hE.fLen rfl]
 subst hkv
 simp (maxSteps := 4000000) only [zr, zf, zA, zO, zI, zc, zg, zn, zt, zv, ze, zu, ZF, zi, zM, Z8, Za, zH, Yf, Zh, zm, Zl, zx, zl, zk, zd, zb, za, z0, zq, List.getElem?_cons_zero, z1, zo, zz, zC, Cells.get, getN, if_false, reduceCtorEq, Bool.not_false, z3, pp, pv, Nat.add_zero, d13, gp]
theorem N4 (hG : s.Good) (room : Int) :
 W (dcall E (d + 1) (.func (.func 19) #[] #[]) [.int .i64 room] s) fun r => Ext [] s r.2 ∧ ((0 ≤ room ∧ room ≤ 4096 ∧ r.1 = .tuple ⟨[.pointer (some ⟨s.next, 0, none⟩), .int .i64 0]⟩ ∧ Qd r.2 s.next (.slice none 0 0) (.slice none 0 0) [] room) ∨ (¬ (0 ≤ room ∧ room ≤ 4096) ∧ r.1 = .tuple ⟨[.pointer none, .int .i64 1]⟩ ∧ r.2 = s)) := by
 refine Zz fun Q hQ => ?_
 rw [zF hE.iNew hE.fNew rfl]
 by_cases c1 : room < 0
 · simp (maxSteps := 4000000) only [zr, zf, zA, zI, zc, ZE, zg, zn, zt, ZK, ZH, zS, ze, zu, zi, zM, zU, zT, zm, zY, zP, zx, zl, zk, zd, zb, za, Nat.reduceEqDiff, z0, zq, List.getElem?_cons_zero, z1, zo, zz, if_true, if_false, reduceCtorEq, z3, List.nil_append, pp, pv, pw, pg, decide_true, d19, c1]
   exact hQ _ ⟨.refl, .inr ⟨by omega, rfl, rfl⟩⟩
 · by_cases c2 : 4096 < room
   · simp (maxSteps := 4000000) only [zr, zf, zA, zI, zc, ZE, zg, zn, zt, ZK, zV, zS, ze, zu, zi, zM, zU, zT, zm, zY, zP, zx, zl, zk, zd, zb, za, Nat.reduceEqDiff, z0, zq, List.getElem?_cons_zero, z1, zo, zz, if_true, if_false, reduceCtorEq, z3, pp, pv, pw, pg, decide_true, decide_false, d19, c1, c2]
     exact hQ _ ⟨.refl, .inr ⟨by omega, rfl, rfl⟩⟩
   · simp (maxSteps := 4000000) only [zr, zf, zA, zO, zI, zc, zg, zn, zt, ZK, zV, zv, ze, zu, Z3, zi, zM, zU, zT, ZG, Z4, zm, zY, zP, zx, zl, zk, zd, zb, za, Nat.reduceEqDiff, z0, zq, List.getElem?_cons_zero, z1, zo, zz, Nat.zero_add, Nat.reduceAdd, Zg, zD, List.length_cons, List.length_nil, Bool.and_self, Bool.and_eq_true, Nat.beq_eq, Nat.ble_eq, Nat.le_refl, and_self, if_true, if_false, reduceCtorEq, z3, zL, List.take_zero, List.take_succ_cons, List.drop_succ_cons, List.nil_append, List.cons_append, List.drop_nil, List.append_nil, pp, pv, pw, pg, decide_false, d19, c1, c2]
     refine hQ _ ⟨Ext.new, .inl ⟨by omega, by omega, rfl, ⟨DS.new_get_self hG, (hG s.next (Nat.le_refl _)).2, .nil, .nil, by simp [blk], by simp [blk], by simp [blk], .nil, by simp⟩⟩⟩
end
end Go.Dx.RpA
namespace Go.Dx.RpA
open Go Go.Dx Go.Dx.Search Go.Dx.St Go.Proofs.YtpfkbiaikfbpeaaGreat
structure Its (E : Env) : Prop where
 fAll : E.fn 93 = some d93
 iAll : E.intr 93 = none
 fAll1 : E.fn 125 = some d125
 iAll1 : E.intr 125 = none
 ffrom : E.fn 442 = some d442
 ifrom : E.intr 442 = none
 ffrom1 : E.fn 463 = some d463
 ifrom1 : E.intr 463 = none
 fNext : E.fn 404 = some d404
 iNext : E.intr 404 = none
structure M0 (J : Nat → DS → Prop) (n y1 c : Nat) (kv : Value) (i : Nat) (x : St) : Prop where
 ex : ∃ j : Nat, i = n - j ∧ j ≤ n ∧ x.defers = [] ∧ (x.t.get 0 = some (.func (.yield y1) #[] #[]) ∧ x.t.get 1 = some (.pointer (some ⟨c, 0, none⟩)) ∧ x.t.get 11 = some kv ∧ x.t.get 12 = some (.int .i64 (n : Int)) ∧ x.t.get 13 = some (.int .i64 (j : Int))) ∧ J j x.s
section
variable {E : Env} (hE : Fns E) (hI : Its E) {s : DS} {p : Nat} {kv vv : Value} {L : List Ent} {room : Int} {d : Nat} {J : Nat → DS → Prop} {Stop : DS → Prop} {c y1 : Nat}
include hI
theorem RM (hJ : ∀ i S, J i S → Qd S p kv vv L room ∧ S.get c = some (.cells (.list [.pointer (some ⟨p, 0, none⟩)]) false))
 (hstep : ∀ (i : Nat) (x : Ent) (S : DS), L[i]? = some x → J i S → W (dcall E d (.func (.yield y1) #[] #[]) [.int .i64 x.1, .int .i64 x.2] S) fun r => (r.1 = .bool true ∧ J (i + 1) r.2) ∨ (r.1 = .bool false ∧ Stop r.2))
 (h0 : J 0 s) (hlf : L.length < E.lf) :
 W (dcall E (d + 1) (.func (.func 125) #[] #[.pointer (some ⟨c, 0, none⟩)]) [.func (.yield y1) #[] #[]] s) fun r => J L.length r.2 ∨ Stop r.2 := by
 obtain ⟨c0, gc⟩ := hJ 0 s h0
 have gp := c0.gp
 obtain ⟨ak, ck, hkv⟩ := c0.ks.shape
 have hkl : (FR L).length = L.length := by unfold FR; rw [Xg, List.length_map]
 rw [hkl] at hkv
 refine Zz fun Q hQ => ?_
 rw [Wq hI.iAll1 hI.fAll1 rfl]
 have h0' := h0
 subst hkv
 simp (maxSteps := 4000000) only [zr, zf, zA, Zq, zO, zc, zg, zn, zt, zv, ze, zu, ZF, zi, zM, Z8, Za, zH, Yf, Zh, zm, Zl, zl, zk, zd, zb, za, Nat.reduceEqDiff, z0, zq, List.getElem?_cons_zero, List.getElem?_cons_succ, z1, zC, Cells.get, getN, if_false, Bool.not_false, z3, List.nil_append, List.cons_append, pp, pv, Nat.add_zero, d125, gc, gp]
 refine Xi (M0 J L.length y1 c (.slice ak L.length ck)) L.length hlf ⟨0, rfl, Nat.zero_le _, rfl, ?_, h0'⟩ ?_
 · simp (maxSteps := 4000000) only [zb, za, Nat.reduceEqDiff, z0, zq, List.getElem?_cons_zero, List.getElem?_cons_succ, Bool.true_and, true_and, reduceCtorEq]
   rfl
 rintro n ⟨t, S, ds⟩ hn ⟨i, rfl, hi, hds, ⟨g0, g1, g11, g12, g13⟩, hj⟩
 simp only at hds g0 g1 g11 g12 g13 hj
 subst hds
 by_cases c1 : i < L.length
 · have hx : L[i]? = some L[i] := List.getElem?_eq_getElem c1
   generalize L[i] = x at hx
   obtain ⟨cS, gcS⟩ := hJ i S hj
   have gpS := cS.gp
   have hk : (L.map (·.1))[i]? = some x.1 := by simp [hx]
   have hv : (L.map (·.2))[i]? = some x.2 := by simp [hx]
   obtain ⟨b, sp, cc, ext, hkv2, hr, hg⟩ := cS.ks.getI hk
   obtain ⟨b2, sp2, cc2, ext2, hvv2, hr2, hg2⟩ := cS.vs.getI hv
   rw [List.length_map] at hkv2 hvv2
   cases hkv2
   have hgb := hr.get
   have hgb2 := hr2.get
   subst hvv2
   have e1 : (i : Int) < (L.length : Int) := by omega
   have hlen := cS.len
   have w1 : zR .i64 ((i : Int) + 1) = ((i + 1 : Nat) : Int) := by rw [ZB (by omega) (by omega)]; omega
   simp (maxSteps := 4000000) only [zr, zf, zA, Zq, zO, zc, zg, zn, zt, zS, ze, zu, zi, zM, zT, Za, zH, GO, Zh, zB, zm, zY, zP, zl, zd, zb, za, Nat.reduceEqDiff, z0, z1, z4, z5, zC, Cells.get, getN, Nat.zero_add, Nat.blt_eq, if_true, reduceCtorEq, Nat.add_zero, zW, Nat.mul_one, decide_true, g0, g1, g11, g12, g13, e1, c1, hgb, hg, hgb2, hg2, gcS, gpS]
   refine W.mono (hstep i x S hx hj) ?_
   rintro ⟨v, S2⟩ (⟨hv, hj2⟩ | ⟨hv, hst⟩)
   · simp only at hv hj2
     subst hv
     simp (maxSteps := 4000000) only [zf, zA, zO, zc, Zo, zg, ZU, zn, zt, zv, ze, zu, zi, zM, zT, Jn, zm, zY, zP, zl, zk, zd, zb, za, Nat.reduceEqDiff, z0, z1, if_true, Bool.not_true, g0, g1, g11, g12, g13, w1]
     exact ⟨L.length - (i + 1), by omega, ⟨i + 1, rfl, by omega, rfl, by simp (maxSteps := 4000000) only [zb, za, Nat.reduceEqDiff, z0, Bool.and_self, and_self, reduceCtorEq, g0, g1, g11, g12, g13], hj2⟩⟩
   · simp only at hv hst
     subst hv
     simp (maxSteps := 4000000) only [zA, zI, zc, ZE, Tr, zg, Tq, zn, zt, zS, ze, zu, zi, Jn, zm, zx, zl, zd, zb, z1, zo, zz, Bool.not_false, g0, g1, g11, g12, g13]
     exact hQ _ (.inr hst)
 · obtain rfl : i = L.length := by omega
   have e1 : ¬ (L.length : Int) < (L.length : Int) := by omega
   simp (maxSteps := 4000000) only [zr, zf, zA, Xj, zc, Z9, Yb, zg, Ya, zn, zt, zv, ze, zu, zi, zT, zY, zP, ZC, zl, zd, zb, z1, zo, zz, if_true, decide_false, g0, g1, g11, g12, g13, e1]
   exact hQ _ (.inl hj)
include hE
omit hE
theorem N7 (dd : Nat) (s0 : DS) (a : Option Addr) : dcall E (dd + 1) (.func (.func 93) #[] #[]) [.pointer a] s0 = some (.func (.func 125) #[] #[.pointer (some ⟨s0.next, 0, none⟩)], s0.new (.cells (.list [.pointer a]) false)) := by
 rw [← XH, zF hI.iAll hI.fAll rfl]
 simp (maxSteps := 4000000) only [zr, zf, zI, zc, zg, zn, zt, ze, zi, zM, Qr, Z4, zx, zl, zk, zd, zb, za, Nat.reduceEqDiff, z0, zq, List.getElem?_cons_zero, z1, zo, zz, z4, z5, Xb, pp, pv, d93]
include hE
end
end Go.Dx.RpA
