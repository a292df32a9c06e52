/- A part. -/
import Derived.Test.YtnmajohhfcgddaaDxSk
import Derived.Test.YtnmajohhfcgddaaDxC
import Derived.Test.YtnmajohhfcgddaaDxPl
set_option linter.unusedVariables false
set_option linter.unusedSimpArgs false
set_option linter.unusedSectionVars false
set_option maxRecDepth 100000
set_option maxHeartbeats 4000000
namespace Go.Dx.StA
open Go Go.Dx Go.Dx.Search Go.Dx.St Go.Proofs.Ytnmajohhfcgddaa
structure Fns (E : Env) : Prop where
 fless : E.fn 72 = some (KD 90)
 iless : E.intr 72 = none
 fnan : E.fn 90 = some VJ
 inan : E.intr 90 = none
 fnan2 : E.fn 73 = some QB
 inan2 : E.intr 73 = none
 fbs : E.fn 52 = some (QH 72 73)
 ibs : E.intr 52 = none
 ffind : E.fn 33 = some (Gw 52)
 ifind : E.intr 33 = none
 fins : E.fn 53 = some d53
 iins : E.intr 53 = some KH
 fdel : E.fn 64 = some d64
 idel : E.intr 64 = none
 fput : E.fn 34 = some d34
 iput : E.intr 34 = none
 fdrop : E.fn 43 = some d43
 idrop : E.intr 43 = none
 fNew : E.fn 9 = some d9
 iNew : E.intr 9 = none
 fPut : E.fn 11 = some d11
 iPut : E.intr 11 = none
 fGet : E.fn 21 = some d21
 iGet : E.intr 21 = none
 fDelete : E.fn 19 = some d19
 iDelete : E.intr 19 = none
 fLen : E.fn 14 = some d14
 iLen : E.intr 14 = none
 lf : 10000 ≤ E.lf
section
variable {E : Env} (hE : Fns E) {s : DS} {v : Value} {l : List Int} {d : Nat}
include hE
theorem FT (h : SlC s 1 v (ints l)) (hG : s.Good) {i : Nat} (hi : i ≤ l.length) (hl : l.length ≤ 1000000) {x : Int} {kw : Nat} (hg : s.get kw = some (.cells (.list [.int .i64 x]) false)) (hkw : kw ∉ blk v) :
 W (dcall E (d + 1) (.func (.func 53) #[] #[]) [v, .int .i64 (i : Int), .slice (some ⟨kw, 0, none⟩) 1 1] s) fun r => SlC r.2 1 r.1 (ints (Xc l i x)) ∧ Ext (blk v) s r.2 ∧ ∀ k, k ∈ blk r.1 → k ∈ blk v ∨ s.next ≤ k := by
 by_cases hil : i < l.length
 · obtain ⟨a, h1, h2⟩ := PM h hG hil hl hg hkw (sp := none) (cw := 1)
   exact W.intro (Rj hE.iins h1) h2
 · obtain rfl : i = l.length := by omega
   refine Zw fun Q hQ => ?_
   obtain ⟨a, c, rfl⟩ := h.shape
   rw [ZX] at h hkw hQ ⊢
   rw [RY hE.iins (PN (Nat.le_refl _)) hE.fins rfl]
   obtain ⟨w, e1, _⟩ := Dh h (ZT l) (lo := some (.int .i64 (l.length : Int))) (hi := none) (i := l.length) (j := (ints l).length) rfl rfl (by rw [ZX]; exact Nat.le_refl _) (Nat.le_refl _)
   have hw : SlV s 1 (.slice (some ⟨kw, 0, none⟩) 1 1) (ints [x]) := .inr ⟨kw, 0, none, 1, rfl, by unfold DS.read; rw [hg]; rfl⟩
   have e0 : ¬ ((1 : Nat) : Int) = 0 := by decide
   simp (maxSteps := 4000000) only [zr, zh, zx, zM, ze, zi, zm, zq, zC, zu, zg, zp, zk, zI, zP, Zk, zt, z7, Zb, zl, zj, zf, zd, zc, Nat.reduceEqDiff, z0, zn, List.getElem?_cons_zero, List.getElem?_cons_succ, z1, if_true, reduceCtorEq, pp, pv, Option.map_some, Ke, Wl, Option.map_none, decide_true, decide_false, d53, e1, e0]
   refine W.mono (Qm h hw (ZT l) (ZT [x]) hG ?_ ?_) ?_
   · simp [ints]; omega
   · simp [ints]; omega
   rintro ⟨v1, s1⟩ ⟨h1, h2, h3, _⟩
   simp (maxSteps := 4000000) only [zV, ze, Zx, zi, zm, zq, zg, zk, zI, zH, zl, zf, zd, z1, zw, zG]
   refine hQ _ ⟨?_, h2, h3⟩
   have : ints (Xc l l.length x) = ints l ++ ints [x] := by unfold Xc ints; simp
   rw [this]; exact h1
theorem RB (h : SlC s 1 v (ints l)) (hG : s.Good) {i : Nat} (hi : i < l.length) (hl : l.length ≤ 1000000) :
 W (dcall E (d + 1) (.func (.func 64) #[] #[]) [v, .int .i64 (i : Int), .int .i64 ((i + 1 : Nat) : Int)] s) fun r => SlC r.2 1 r.1 (ints (l.eraseIdx i)) ∧ Ext (blk v) s r.2 ∧ ∀ k, k ∈ blk r.1 → k ∈ blk v ∨ s.next ≤ k := by
 have hil := ZX l
 refine Zw fun Q hQ => ?_
 obtain ⟨w1, e1⟩ := Pk h (i := i) (j := i + 1) (by omega) (by omega)
 obtain ⟨w2, e2, v2, ⟨a2, c2, hw2⟩, b2⟩ := Pj h (i := i) (by omega)
 obtain ⟨w3, e3, v3, _, b3⟩ := Dh h (ZT l) (lo := some (.int .i64 ((i + 1 : Nat) : Int))) (hi := none) (i := i + 1) (j := (ints l).length) rfl rfl (by omega) (Nat.le_refl _)
 obtain ⟨a, c, hv, hc⟩ := h.shape'
 rw [hil] at hv hc e1
 have hne : ¬ (i : Int) = ((i + 1 : Nat) : Int) := by omega
 have hw2' : w2 = .slice a i c := by
  have := e2
  rw [hv] at this
  unfold slV Z6 at this
  have e4 : Nat.ble i c = true := Nat.ble_eq.mpr (by omega)
  simp only [zD, e4, if_true, Option.isSome_none] at this
  cases a with
  | none => simp [Yh] at this; rw [← this]
  | some a =>
   obtain ⟨ab, ao, asp⟩ := a
   rcases h with ⟨h0, _⟩ | ⟨b, sp, c', ext, h0, hr⟩
   · rw [hv] at h0; cases h0
   · rw [hv, hil] at h0
     cases h0
     rcases hr.sp with rfl | rfl
     · simp [Yh] at this; rw [← this]
     · simp [Yh] at this; rw [← this]
 have t2 : (ints l).take i = ints (l.take i) := List.map_take.symm
 have t3 : ((ints l).take (ints l).length).drop (i + 1) = ints (l.drop (i + 1)) := by rw [List.take_length]; exact List.map_drop.symm
 rw [t2] at v2
 rw [t3] at v3
 rw [zT hE.idel hE.fdel rfl]
 subst hv
 simp (maxSteps := 4000000) only [zr, zh, zx, zM, ze, zi, zm, zq, zu, zg, zp, zk, zI, zP, Zk, zt, z7, Zb, zl, zj, zf, zd, zc, Nat.reduceEqDiff, z0, zn, List.getElem?_cons_zero, List.getElem?_cons_succ, z1, if_true, reduceCtorEq, pp, pv, Option.map_some, Ke, Wl, Option.map_none, decide_false, d64, e1, e2, e3, hne]
 refine W.mono (Qm v2 v3 (ZT _) (ZT _) hG ?_ ?_) ?_
 · simp [ints]; omega
 · simp [ints]; omega
 rintro ⟨v4, s4⟩ ⟨x4, X4, b4, hr⟩
 simp only at x4 X4 b4 hr
 have hv4 := hr a i c hw2' (by simp [ints]; omega)
 have hlen : (ints (l.take i) ++ ints (l.drop (i + 1))).length = l.length - 1 := by simp [ints]; omega
 have hlen' : (ints (l.take i)).length + (ints (l.drop (i + 1))).length = l.length - 1 := by rw [← List.length_append]; exact hlen
 rw [hlen'] at hv4
 subst hv4
 have ho4 : ZI 1 (ints (l.take i) ++ ints (l.drop (i + 1))) := (ZT _).append (ZT _)
 obtain ⟨w5, e5, hclr⟩ := NU (z := .int .i64 0) x4 ho4 rfl (a := a) (c := c) (m := l.length) (by rw [hlen]) (by rw [hlen]; omega) hc
 rw [hlen] at e5
 simp (maxSteps := 4000000) only [zr, zh, ze, zi, zm, zq, zg, zp, zk, zI, Zk, zt, zl, zf, zd, zc, Nat.reduceEqDiff, z0, z1, reduceCtorEq, Option.map_some, Ke, Option.map_none, e5, MF]
 refine W.mono hclr ?_
 rintro ⟨v6, s6⟩ ⟨x6, X6⟩
 simp only at x6 X6
 simp (maxSteps := 4000000) only [zr, zh, zV, ze, zi, zm, zq, zg, zk, zI, zH, zl, zf, zy, zd, zc, z0, z1, zw, zG, reduceCtorEq]
 refine hQ _ ⟨?_, ?_, ?_⟩
 · have : ints (l.eraseIdx i) = ints (l.take i) ++ ints (l.drop (i + 1)) := by rw [List.eraseIdx_eq_take_drop_succ]; unfold ints; rw [List.map_append]
   rw [this]; exact x6
 · rw [b2] at X4
   have e6 : blk (.slice a (l.length - 1) c) = blk (.slice a l.length c) := Tt
   rw [e6] at X6
   exact X4.trans' X6
 · intro k hk
   left
   rwa [show blk (.slice a (l.length - 1) c) = blk (.slice a l.length c) from Tt] at hk
end
def Ys (L : List Ent) : List (List Value) := ints (L.map (·.1))
def We (L : List Ent) : List (List Value) := ints (L.map (·.2))
structure Xg (s : DS) (p : Nat) (kv vv : Value) (L : List Ent) (room : Int) : Prop where
 gp : s.get p = some (.cells (.list [kv, vv, .int .i64 room]) false)
 wp : s.wr p = true
 ks : SlC s 1 kv (Ys L)
 vs : SlC s 1 vv (We L)
 pk : p ∉ blk kv
 pv : p ∉ blk vv
 kv : ∀ k, k ∈ blk kv → k ∉ blk vv
 so : XZ L
 len : L.length ≤ 5000
def own (p : Nat) (kv vv : Value) : List Nat := p :: (blk kv ++ blk vv)
section
variable {s s' : DS} {p : Nat} {kv vv : Value} {L : List Ent} {room : Int} {F : List Nat}
theorem Xg.keep (c : Xg s p kv vv L room) (e : Ext F s s') (hd : ∀ k, k ∈ own p kv vv → k ∉ F) : Xg s' p kv vv L room :=
 ⟨e.keep c.gp (hd p (List.mem_cons_self ..)), e.wrs c.wp, c.ks.keep e fun k hk => hd k (by simp [own, hk]), c.vs.keep e fun k hk => hd k (by simp [own, hk]), c.pk, c.pv, c.kv, c.so, c.len⟩
theorem Xg.lt (c : Xg s p kv vv L room) : ∀ k, k ∈ own p kv vv → k < s.next := by
 intro k hk
 simp only [own, List.mem_cons, List.mem_append] at hk
 rcases hk with rfl | hk | hk
 · exact DS.get_lt' c.gp
 · exact c.ks.lt k hk
 · exact c.vs.lt k hk
theorem Xg.mask {nt : List Xf} {haz : List Nat} (c : Xg s p kv vv L room) (hq : ∀ k, k ∈ own p kv vv → hidden nt haz k = false ∧ shielded nt haz k = false) : Xg (mask s nt haz) p kv vv L room := by
 have h1 := hq p (List.mem_cons_self ..)
 refine ⟨by rw [YC h1.1]; exact c.gp, QN c.wp h1.1 h1.2, c.ks.of fun k hk => ?_, c.vs.of fun k hk => ?_, c.pk, c.pv, c.kv, c.so, c.len⟩
 · have h2 := hq k (by simp [own, hk])
   exact ⟨YC h2.1, fun hw => QN hw h2.1 h2.2⟩
 · have h2 := hq k (by simp [own, hk])
   exact ⟨YC h2.1, fun hw => QN hw h2.1 h2.2⟩
variable {E : Env} (hE : Fns E) {d : Nat}
include hE
theorem find_ok (c : Xg s p kv vv L room) (k : Int) : dcall E (d + 4) (.func (.func 33) #[] #[]) [.pointer (some ⟨p, 0, none⟩), .int .i64 k] s = some (.tuple #[.int .i64 (pos k L : Int), .bool (YU k L)], s) := by
 have hlf := hE.lf
 have hlen := c.len
 have hrow := c.ks.row
 rw [List.length_map] at hrow
 obtain ⟨q, hq, h⟩ := Rq hE.fless hE.iless hE.fnan hE.inan hE.fnan2 hE.inan2 hE.fbs hE.ibs hE.ffind hE.ifind (p := p) (o := 0) (A := kv) (n := L.length) (key := k) (K := Kf L) (s := s) (by rw [zL, c.gp]; rfl) hrow (by omega) (by omega) (Ng c.so)
 have : q = pos k L := Vw.unique hq (TQ c.so k)
 subst this
 have := h d
 rw [PK] at this
 exact this
theorem SL (c : Xg s p kv vv L room) (hG : s.Good) (k v : Int) (hl : (Qf k v L).length ≤ 5000) :
 W (dcall E (d + 5) (.func (.func 34) #[] #[]) [.pointer (some ⟨p, 0, none⟩), .int .i64 k, .int .i64 v] s) fun r => r.1 = .tuple #[] ∧ ∃ kv' vv', Xg r.2 p kv' vv' (Qf k v L) room ∧ Ext (own p kv vv) s r.2 ∧ ∀ j, j ∈ own p kv' vv' → j ∈ own p kv vv ∨ s.next ≤ j := by
 have hfind := find_ok hE c k (d := d)
 have gp := c.gp
 have wp := c.wp
 have hpl := DS.get_lt' gp
 have hlen := c.len
 have hkl : (L.map (·.1)).length = L.length := List.length_map ..
 have hvl : (L.map (·.2)).length = L.length := List.length_map ..
 refine Zw fun Q hQ => ?_
 rw [zT hE.iput hE.fput rfl]
 by_cases hin : YU k L = true
 · obtain ⟨x, hx, hxk⟩ := XX hin
   have hil := (List.getElem?_eq_some_iff.1 hx).1
   have hx2 : (L.map (·.2))[pos k L]? = some x.2 := by simp [hx]
   obtain ⟨b, sp, cc, ext, hv, hr, hg⟩ := c.vs.getI hx2
   rw [hvl] at hv
   have hbp : ¬ p = b := fun e => c.pv (by rw [hv]; simp [blk, e])
   have hgb := hr.get
   have hwb := hr.wr
   have hle : pos k L + 1 ≤ (ints (L.map fun x => x.2)).flatten.length + ext.length := by
    have h1 : (ints (L.map fun x => x.2)).flatten.length = L.length := by rw [(ZT _).flat, ZX, hvl, Nat.mul_one]
    omega
   subst hv
   simp (maxSteps := 4000000) only [zr, zh, zx, zV, ze, Zx, zi, zm, zq, zC, zg, zp, zY, zk, zI, zS, zQ, Yy, Yg, Zl, Zz, zF, zt, zH, zl, zB, zf, zy, zd, zc, Nat.reduceEqDiff, z0, zn, List.getElem?_cons_zero, List.getElem?_cons_succ, z1, zw, zG, z4, z5, zL, Cells.get, getN, Nat.zero_add, Zh, zZ, List.length_cons, List.length_nil, allOne, zJ, Bool.and_self, Bool.and_true, Nat.beq_eq, Nat.ble_eq, Nat.blt_eq, if_true, reduceCtorEq, DS.wrC, Cells.size, Cells.fillFrom, Cells.set, pp, pv, List.length_append, zD, Nat.mul_one, d34, hfind, hin, gp, hil, hgb, hwb, hle]
   have hset : Zj ((ints (L.map fun x => x.2)).flatten ++ ext) (pos k L) (.int .i64 v) = (We (Qf k v L)).flatten ++ ext := by
    have h1 : (ints (L.map fun x => x.2)).flatten.length = L.length := by rw [(ZT _).flat, ZX, hvl, Nat.mul_one]
    rw [Wy, List.set_append_left _ _ (by omega)]
    congr 1
    unfold We Qf
    rw [if_pos hin, Qr, Qr, List.map_set, List.map_set]
   rw [hset]
   have X : ∀ o, Ext [b] s (s.upd b o) := fun o => Ext.upd (.inl (by simp))
   have hkb : ∀ j, j ∈ blk kv → j ∉ [b] := fun j hj => by
    have := c.kv j hj
    simpa [blk] using this
   have hkeys : Ys (Qf k v L) = Ys L := by unfold Ys Qf; rw [if_pos hin, Di hin]
   have hvlen : (We (Qf k v L)).length = L.length := by unfold We; rw [ZX, List.length_map, put_len, if_pos hin]
   refine hQ _ ⟨rfl, kv, _, ⟨?_, ?_, ?_, ?_, c.pk, c.pv, c.kv, Q5 c.so k v, hl⟩, (X _).weaken (by simp [own, blk]), fun j hj => .inl hj⟩
   · rw [DS.upd_get_ne hbp]; exact gp
   · rw [DS.upd_wr]; exact wp
   · rw [hkeys]; exact c.ks.keep (X _) hkb
   · refine .inr ⟨b, sp, cc, ext, by rw [hvlen], hr.sp, ?_, by rw [DS.upd_wr]; exact hwb, ?_, ?_, hr.top⟩
     · rw [DS.upd_get_self, hgb]; rfl
     · have h1 := hr.all
       rw [← hset, Wy, List.length_set]; exact h1
     · have h1 := hr.le
       rw [ZX, hvl] at h1
       rw [hvlen]; exact h1
 · have hf : YU k L = false := by cases h : YU k L with | false => rfl | true => exact absurd h hin
   have hlt := c.lt
   have hko : ∀ j, j ∈ blk kv → j ∈ own p kv vv := fun j hj => by simp [own, hj]
   have hvo : ∀ j, j ∈ blk vv → j ∈ own p kv vv := fun j hj => by simp [own, hj]
   have hpo : p ∈ own p kv vv := List.mem_cons_self ..
   simp (maxSteps := 4000000) (maxDischargeDepth := 8) only [zr, zh, zx, zM, ze, zi, zm, zq, zu, zg, zp, ZR, zk, zI, zS, zQ, Yg, Zl, zF, zt, zl, zB, zf, zd, zc, z0, zn, List.getElem?_cons_zero, List.getElem?_cons_succ, z1, z4, z5, zL, Cells.get, getN, Nat.zero_add, zZ, List.length_cons, List.length_nil, Bool.and_self, Bool.and_eq_true, Nat.beq_eq, Nat.ble_eq, Nat.reduceLeDiff, Nat.le_refl, and_self, if_true, z6, List.take_zero, List.drop_succ_cons, List.nil_append, List.drop_nil, List.append_nil, pp, pv, Yk, repeatZ, ZR, Nat.add_zero, Nat.mul_one, zX, ZW, Nat.reduceLT, Nat.lt_add_one, Nat.succ_pos, d34, hfind, hf, gp, hpl]
   obtain ⟨S1, hS1⟩ : ∃ S1 : DS, S1 = s.new (.cells (.list [.int .i64 k]) false) := ⟨_, rfl⟩
   rw [← hS1]
   have X1 : Ext (own p kv vv) s S1 := by rw [hS1]; exact Ext.new
   have n1 : S1.next = s.next + 1 := by rw [hS1]; rfl
   have g1 : S1.get s.next = some (.cells (.list [.int .i64 k]) false) := by rw [hS1]; exact DS.new_get_self hG
   have X1' : Ext [] s S1 := by rw [hS1]; exact Ext.new
   refine W.mono (FT hE (c.ks.keep X1' (by simp)) (X1.good hG) (i := pos k L) (by rw [hkl]; exact Qg k L) (by omega) g1 (fun h => by have := hlt _ (hko _ h); omega)) ?_
   rintro ⟨kv', s2⟩ ⟨x2, X2, b2⟩
   simp only at x2 X2 b2
   have gp2 := X2.keep (X1'.keep gp (by simp)) c.pk
   have wp2 := X2.wrs (X1'.wrs wp)
   have vs2 := (c.vs.keep X1' (by simp)).keep X2 (fun j hj h => c.kv j h hj)
   have hk2 : ∀ j, j ∈ blk kv' → (j ∈ blk kv ∨ s.next < j) ∧ j < s2.next := fun j hj => ⟨by
    rcases b2 j hj with h | h
    · exact .inl h
    · right; omega, x2.lt j hj⟩
   have hp2 := DS.get_lt' gp2
   obtain ⟨ak, ck, hkv'⟩ := x2.shape
   have hG2 := X2.good (X1.good hG)
   have h12 := X2.le
   subst hkv'
   generalize hkv' : Value.slice ak (ints (Xc (L.map fun x => x.1) (pos k L) k)).length ck = kv' at *
   have hone : zJ kv' = true := by rw [← hkv']; rfl
   have hcell : kv'.cells.toList = [kv'] := by rw [← hkv']; rfl
   rw [← hkv']
   simp (maxSteps := 4000000) (maxDischargeDepth := 8) only [zh, ze, zi, zm, zq, zg, zp, zY, ZR, zk, zI, zS, zQ, Zl, Zz, zF, zt, zl, zB, zf, zy, zd, zc, z0, zn, List.getElem?_cons_zero, List.getElem?_cons_succ, z1, z4, z5, zL, Cells.get, getN, Nat.zero_add, Nat.reduceAdd, Zh, zZ, Zy, List.length_cons, List.length_nil, allOne, zJ, Bool.and_self, Bool.and_true, Bool.and_eq_true, Nat.beq_eq, Nat.ble_eq, Nat.reduceLeDiff, Nat.le_refl, and_self, if_true, DS.wrC, Cells.size, Cells.fillFrom, Cells.set, Zj, z6, List.take_zero, List.drop_succ_cons, List.nil_append, List.drop_nil, List.append_nil, DS.upd_get_self, DS.upd_next, Option.map_some, Yk, repeatZ, ZR, Nat.add_zero, Nat.mul_one, zX, Nat.reduceLT, Nat.lt_add_one, Nat.succ_pos, gp2, wp2, hp2]
   rw [hkv']
   obtain ⟨S4, hS4⟩ : ∃ S4 : DS, S4 = (s2.upd p (.cells (.list [kv', vv, .int .i64 room]) false)).new (.cells (.list [.int .i64 v]) false) := ⟨_, rfl⟩
   rw [← hS4]
   have X3 : Ext [p] s2 (s2.upd p (.cells (.list [kv', vv, .int .i64 room]) false)) := Ext.upd (.inl (by simp))
   have X4 : Ext [p] s2 S4 := by rw [hS4]; exact X3.trans' Ext.new
   have n4 : S4.next = s2.next + 1 := by rw [hS4]; simp (maxSteps := 4000000) (maxDischargeDepth := 8) only [DS.upd_next, zU]
   have g4 : S4.get s2.next = some (.cells (.list [.int .i64 v]) false) := by rw [hS4]; simp (maxSteps := 4000000) (maxDischargeDepth := 8) only [DS.upd_next, zo, DS.upd_good, hG2]
   have gp4 : S4.get p = some (.cells (.list [kv', vv, .int .i64 room]) false) := by rw [hS4]; simp (maxSteps := 4000000) (maxDischargeDepth := 8) only [DS.upd_get_self, DS.upd_next, Option.map_some, zz, gp2, hp2]
   have pv4 : ∀ j, j ∈ blk vv → j ∉ [p] := fun j hj => by simp; intro e; subst e; exact c.pv hj
   refine W.mono (FT hE (vs2.keep X4 pv4) (X4.good hG2) (i := pos k L) (by rw [hvl]; exact Qg k L) (by omega) g4 (fun h => by have := hlt _ (hvo _ h); omega)) ?_
   rintro ⟨vv', s5⟩ ⟨x5, X5, b5⟩
   simp only at x5 X5 b5
   have gp5 := X5.keep gp4 c.pv
   have wp5 := X5.wrs (X4.wrs wp2)
   obtain ⟨av, cv, hvv'⟩ := x5.shape
   subst hvv'
   generalize hvv' : Value.slice av (ints (Xc (L.map fun x => x.2) (pos k L) v)).length cv = vv' at *
   rw [← hvv']
   simp (maxSteps := 4000000) (maxDischargeDepth := 8) only [zi, zm, zq, zg, zp, zY, zk, zS, zQ, Zz, zt, ZO, zl, zf, zy, zd, zc, z0, z1, zw, zG, Nat.zero_add, Nat.reduceAdd, Zh, Zy, List.length_cons, List.length_nil, allOne, zJ, Bool.and_self, Bool.and_true, Nat.beq_eq, Nat.ble_eq, Nat.reduceLeDiff, if_true, DS.wrC, Cells.size, Cells.fillFrom, Cells.set, Zj, zX, Nat.reduceLT, Nat.lt_add_one, gp5, wp5]
   rw [hvv']
   have X6 : Ext [p] s5 (s5.upd p (.cells (.list [kv', vv', .int .i64 room]) false)) := Ext.upd (.inl (by simp))
   have hput : Qf k v L = Xc L (pos k L) (k, v) := by unfold Qf; rw [if_neg hin]
   have hpk' : p ∉ blk kv' := fun h => by
    rcases (hk2 p h).1 with h | h
    · exact c.pk h
    · omega
   have hkvv : ∀ j, j ∈ blk kv' → j ∉ blk vv := fun j hj h => by
    rcases (hk2 j hj).1 with h1 | h1
    · exact c.kv j h1 h
    · have := hlt _ (hvo _ h); omega
   have hpv' : p ∉ blk vv' := fun h => by
    rcases b5 p h with h | h
    · exact c.pv h
    · omega
   have hkn : ∀ j, j ∈ blk kv' → j ∉ [p] := fun j hj => by simp; intro e; subst e; exact hpk' hj
   have hvn : ∀ j, j ∈ blk vv' → j ∉ [p] := fun j hj => by simp; intro e; subst e; exact hpv' hj
   refine hQ _ ⟨rfl, kv', vv', ⟨?_, ?_, ?_, ?_, hpk', hpv', ?_, Q5 c.so k v, hl⟩, ?_, ?_⟩
   · rw [DS.upd_get_self, gp5]; rfl
   · rw [DS.upd_wr]; exact wp5
   · have : Ys (Qf k v L) = ints (Xc (L.map fun x => x.1) (pos k L) k) := by unfold Ys; rw [hput, Fc]
     rw [this]
     exact ((x2.keep X4 hkn).keep X5 hkvv).keep X6 hkn
   · have : We (Qf k v L) = ints (Xc (L.map fun x => x.2) (pos k L) v) := by unfold We; rw [hput, Fc]
     rw [this]
     exact x5.keep X6 hvn
   · intro j hj h
     rcases b5 j h with h1 | h1
     · exact hkvv j hj h1
     · have := (hk2 j hj).2; omega
   · have Xp : ∀ {a b : DS}, Ext [p] a b → Ext (own p kv vv) a b := fun X => X.weaken (fun j hj => by simp at hj; subst hj; exact .inl hpo)
     exact X1.trans' ((X2.weaken fun j hj => .inl (hko j hj)).trans' ((Xp X4).trans' ((X5.weaken fun j hj => .inl (hvo j hj)).trans' (Xp X6))))
   · intro j hj
     simp only [own, List.mem_cons, List.mem_append] at hj
     rcases hj with rfl | hj | hj
     · exact .inl hpo
     · rcases (hk2 j hj).1 with h | h
       · exact .inl (hko j h)
       · right; omega
     · rcases b5 j hj with h | h
       · exact .inl (hvo j h)
       · right; omega
theorem PX (c : Xg s p kv vv L room) (hG : s.Good) (k : Int) :
 W (dcall E (d + 5) (.func (.func 43) #[] #[]) [.pointer (some ⟨p, 0, none⟩), .int .i64 k] s) fun r => r.1 = .bool (YU k L) ∧ ∃ kv' vv', Xg r.2 p kv' vv' (WY k L) room ∧ Ext (own p kv vv) s r.2 ∧ ∀ j, j ∈ own p kv' vv' → j ∈ own p kv vv ∨ s.next ≤ j := by
 have hfind := find_ok hE c k (d := d)
 have gp := c.gp
 have wp := c.wp
 have hpl := DS.get_lt' gp
 have hlen := c.len
 have hkl : (L.map (·.1)).length = L.length := List.length_map ..
 have hvl : (L.map (·.2)).length = L.length := List.length_map ..
 refine Zw fun Q hQ => ?_
 rw [zT hE.idrop hE.fdrop rfl]
 by_cases hin : YU k L = true
 · obtain ⟨x, hx, hxk⟩ := XX hin
   have hil := (List.getElem?_eq_some_iff.1 hx).1
   have hlt := c.lt
   have hko : ∀ j, j ∈ blk kv → j ∈ own p kv vv := fun j hj => by simp [own, hj]
   have hvo : ∀ j, j ∈ blk vv → j ∈ own p kv vv := fun j hj => by simp [own, hj]
   have hpo : p ∈ own p kv vv := List.mem_cons_self ..
   have w1 : zE .i64 ((pos k L : Int) + 1) = ((pos k L + 1 : Nat) : Int) := by rw [zR (by omega) (by omega)]; omega
   simp (maxSteps := 4000000) only [zr, zh, zx, ze, zi, zm, zq, zC, zg, zp, zk, zI, zP, zS, zQ, Yg, Zl, zF, zt, z7, Zb, zl, zj, zB, zf, zd, zc, Nat.reduceEqDiff, z0, zn, List.getElem?_cons_zero, List.getElem?_cons_succ, z1, z4, z5, zL, Cells.get, getN, if_true, reduceCtorEq, pp, pv, Nat.add_zero, d43, hfind, hin, gp, w1]
   refine W.mono (RB hE c.ks hG (i := pos k L) (by rw [hkl]; exact hil) (by omega)) ?_
   rintro ⟨kv', s2⟩ ⟨x2, X2, b2⟩
   simp only at x2 X2 b2
   have gp2 := X2.keep gp c.pk
   have wp2 := X2.wrs wp
   have vs2 := c.vs.keep X2 (fun j hj h => c.kv j h hj)
   have hk2 : ∀ j, j ∈ blk kv' → (j ∈ blk kv ∨ s.next ≤ j) ∧ j < s2.next := fun j hj => ⟨b2 j hj, x2.lt j hj⟩
   have hp2 := DS.get_lt' gp2
   obtain ⟨ak, ck, hkv'⟩ := x2.shape
   have hG2 := X2.good hG
   have h12 := X2.le
   subst hkv'
   generalize hkv' : Value.slice ak (ints ((L.map fun x => x.1).eraseIdx (pos k L))).length ck = kv' at *
   rw [← hkv']
   simp (maxSteps := 4000000) (maxDischargeDepth := 8) only [zh, ze, zi, zm, zq, zg, zp, zY, zk, zI, zP, zS, zQ, Zl, Zz, zF, zt, z7, Zb, zl, zj, zB, zf, zy, zd, zc, z0, zn, List.getElem?_cons_zero, z1, z4, z5, zL, Cells.get, getN, Nat.zero_add, Nat.reduceAdd, Zh, Zy, List.length_cons, List.length_nil, allOne, zJ, Bool.and_self, Bool.and_true, Nat.beq_eq, Nat.ble_eq, Nat.reduceLeDiff, if_true, DS.wrC, Cells.size, Cells.fillFrom, Cells.set, Zj, DS.upd_get_self, Option.map_some, Nat.add_zero, zX, Nat.reduceLT, Nat.lt_add_one, Nat.succ_pos, gp2, wp2, hp2, w1]
   rw [hkv']
   obtain ⟨S4, hS4⟩ : ∃ S4 : DS, S4 = (s2.upd p (.cells (.list [kv', vv, .int .i64 room]) false)) := ⟨_, rfl⟩
   rw [← hS4]
   have X4 : Ext [p] s2 S4 := by rw [hS4]; exact Ext.upd (.inl (by simp))
   have n4 : S4.next = s2.next := by rw [hS4]; simp (maxSteps := 4000000) (maxDischargeDepth := 8) only [DS.upd_next]
   have gp4 : S4.get p = some (.cells (.list [kv', vv, .int .i64 room]) false) := by rw [hS4]; simp (maxSteps := 4000000) (maxDischargeDepth := 8) only [DS.upd_get_self, Option.map_some, gp2]
   have pv4 : ∀ j, j ∈ blk vv → j ∉ [p] := fun j hj => by simp; intro e; subst e; exact c.pv hj
   refine W.mono (RB hE (vs2.keep X4 pv4) (X4.good hG2) (i := pos k L) (by rw [hvl]; exact hil) (by omega)) ?_
   rintro ⟨vv', s5⟩ ⟨x5, X5, b5⟩
   simp only at x5 X5 b5
   have gp5 := X5.keep gp4 c.pv
   have wp5 := X5.wrs (X4.wrs wp2)
   obtain ⟨av, cv, hvv'⟩ := x5.shape
   subst hvv'
   generalize hvv' : Value.slice av (ints ((L.map fun x => x.2).eraseIdx (pos k L))).length cv = vv' at *
   rw [← hvv']
   simp (maxSteps := 4000000) (maxDischargeDepth := 8) only [zr, zh, zV, ze, zi, zm, zq, zg, zp, zY, zk, zI, zS, zQ, Zz, zt, zH, zl, zf, zy, zd, zc, z0, z1, zw, zG, Nat.zero_add, Nat.reduceAdd, Zh, Zy, List.length_cons, List.length_nil, allOne, zJ, Bool.and_self, Bool.and_true, Nat.beq_eq, Nat.ble_eq, Nat.reduceLeDiff, if_true, DS.wrC, Cells.size, Cells.fillFrom, Cells.set, Zj, zX, Nat.reduceLT, Nat.lt_add_one, gp5, wp5]
   rw [hvv']
   have X6 : Ext [p] s5 (s5.upd p (.cells (.list [kv', vv', .int .i64 room]) false)) := Ext.upd (.inl (by simp))
   have hdel : WY k L = L.eraseIdx (pos k L) := by unfold WY; rw [if_pos hin]
   have herase : ∀ f : Ent → Int, (L.eraseIdx (pos k L)).map f = (L.map f).eraseIdx (pos k L) := fun f => by rw [List.eraseIdx_eq_take_drop_succ, List.eraseIdx_eq_take_drop_succ, List.map_append, List.map_take, List.map_drop]
   have hpk' : p ∉ blk kv' := fun h => by
    rcases (hk2 p h).1 with h | h
    · exact c.pk h
    · omega
   have hkvv : ∀ j, j ∈ blk kv' → j ∉ blk vv := fun j hj h => by
    rcases (hk2 j hj).1 with h1 | h1
    · exact c.kv j h1 h
    · have := hlt _ (hvo _ h); omega
   have hpv' : p ∉ blk vv' := fun h => by
    rcases b5 p h with h | h
    · exact c.pv h
    · omega
   have hkn : ∀ j, j ∈ blk kv' → j ∉ [p] := fun j hj => by simp; intro e; subst e; exact hpk' hj
   have hvn : ∀ j, j ∈ blk vv' → j ∉ [p] := fun j hj => by simp; intro e; subst e; exact hpv' hj
   have hl : (WY k L).length ≤ 5000 := by rw [del_len]; split <;> omega
   refine hQ _ ⟨by rw [hin], kv', vv', ⟨?_, ?_, ?_, ?_, hpk', hpv', ?_, V3 c.so k, hl⟩, ?_, ?_⟩
   · rw [DS.upd_get_self, gp5]; rfl
   · rw [DS.upd_wr]; exact wp5
   · have : Ys (WY k L) = ints ((L.map fun x => x.1).eraseIdx (pos k L)) := by unfold Ys; rw [hdel, herase]
     rw [this]
     exact ((x2.keep X4 hkn).keep X5 hkvv).keep X6 hkn
   · have : We (WY k L) = ints ((L.map fun x => x.2).eraseIdx (pos k L)) := by unfold We; rw [hdel, herase]
     rw [this]
     exact x5.keep X6 hvn
   · intro j hj h
     rcases b5 j h with h1 | h1
     · exact hkvv j hj h1
     · have := (hk2 j hj).2; omega
   · have Xp : ∀ {a b : DS}, Ext [p] a b → Ext (own p kv vv) a b := fun X => X.weaken (fun j hj => by simp at hj; subst hj; exact .inl hpo)
     exact (X2.weaken fun j hj => .inl (hko j hj)).trans' ((Xp X4).trans' ((X5.weaken fun j hj => .inl (hvo j hj)).trans' (Xp X6)))
   · intro j hj
     simp only [own, List.mem_cons, List.mem_append] at hj
     rcases hj with rfl | hj | hj
     · exact .inl hpo
     · rcases (hk2 j hj).1 with h | h
       · exact .inl (hko j h)
       · right; omega
     · rcases b5 j hj with h | h
       · exact .inl (hvo j h)
       · right; omega
 · have hf : YU k L = false := by cases h : YU k L with | false => rfl | true => exact absurd h hin
   simp (maxSteps := 4000000) only [zr, zh, zx, zM, zV, ze, zi, zm, zq, zu, zg, zp, zk, zI, Yg, zF, zt, zH, zl, zj, zB, zf, zd, zc, Nat.reduceEqDiff, z0, zn, List.getElem?_cons_zero, List.getElem?_cons_succ, z1, zw, zG, z4, z5, getN, reduceCtorEq, pp, pv, d43, hfind, hf]
   have : WY k L = L := by unfold WY; rw [if_neg hin]
   exact hQ _ ⟨by rw [hf], kv, vv, by rw [this]; exact c, .refl, fun j hj => .inl hj⟩
def J2 (k : Int) (L : List Ent) (room : Int) : Int := if YU k L then 0 else if room ≤ (L.length : Int) then 2 else 0
def Jl (k v : Int) (L : List Ent) (room : Int) : List Ent := if YU k L then Qf k v L else if room ≤ (L.length : Int) then L else Qf k v L
theorem GG (c : Xg s p kv vv L room) (hG : s.Good) (k v : Int) (hr : room ≤ 5000) :
 W (dcall E (d + 6) (.func (.func 11) #[] #[]) [.pointer (some ⟨p, 0, none⟩), .int .i64 k, .int .i64 v] s) fun r => r.1 = .int .i64 (J2 k L room) ∧ ∃ kv' vv', Xg r.2 p kv' vv' (Jl k v L room) room ∧ Ext (own p kv vv) s r.2 ∧ ∀ j, j ∈ own p kv' vv' → j ∈ own p kv vv ∨ s.next ≤ j := by
 have hfind := find_ok hE c k (d := d + 1)
 have gp := c.gp
 have hlen := c.len
 obtain ⟨ak, ck, hkv⟩ := c.ks.shape
 have hkl : (Ys L).length = L.length := by unfold Ys; rw [ZX, List.length_map]
 rw [hkl] at hkv
 refine Zw fun Q hQ => ?_
 rw [zT hE.iPut hE.fPut rfl]
 by_cases hin : YU k L = true
 · have hl : (Qf k v L).length ≤ 5000 := by rw [put_len, if_pos hin]; exact hlen
   simp (maxSteps := 4000000) only [zr, zh, zx, zM, ze, zi, zm, zq, ZH, XM, zu, zg, zp, ZD, zk, zI, Zd, Z5, Qn, zS, zQ, Yg, zF, zt, Zv, zl, zj, zB, zf, zd, zc, Nat.reduceEqDiff, z0, zn, List.getElem?_cons_zero, List.getElem?_cons_succ, z1, z4, z5, getN, if_false, reduceCtorEq, Bool.not_true, Bool.not_false, z3, List.nil_append, pp, pv, pw, pg, Nat.add_zero, d11, hfind, hin]
   refine W.mono (SL hE c hG k v hl) ?_
   rintro ⟨v1, s1⟩ ⟨hv1, kv', vv', c', X, b⟩
   simp only at hv1 c' X b
   simp (maxSteps := 4000000) only [zr, zh, zV, ze, zi, zm, zq, zg, zk, zI, zH, zj, zf, zd, z1, zw, zG]
   exact hQ _ ⟨by unfold J2; rw [if_pos hin], kv', vv', by unfold Jl; rw [if_pos hin]; exact c', X, b⟩
 · have hf : YU k L = false := by cases h : YU k L with | false => rfl | true => exact absurd h hin
   by_cases hfull : room ≤ (L.length : Int)
   · subst hkv
     simp (maxSteps := 4000000) only [zr, zh, zx, zM, zV, ze, Zx, zi, zm, zq, ZH, ZB, zC, zu, zg, zp, ZD, zk, zI, Zd, zP, Z5, Qn, zS, zQ, Yg, Zk, Zl, zF, zt, z7, Zb, Zv, zH, zl, zj, zB, zf, zd, zc, Nat.reduceEqDiff, z0, zn, List.getElem?_cons_zero, List.getElem?_cons_succ, z1, zw, zG, z4, z5, zL, Cells.get, getN, Nat.zero_add, if_true, if_false, reduceCtorEq, Bool.not_false, z3, pp, pv, pw, pg, Nat.add_zero, decide_true, d11, hfind, hf, gp, hfull]
     exact hQ _ ⟨by unfold J2; rw [if_neg hin, if_pos hfull], _, vv, by unfold Jl; rw [if_neg hin, if_pos hfull]; exact c, .refl, fun j hj => .inl hj⟩
   · have hl : (Qf k v L).length ≤ 5000 := by rw [put_len, if_neg hin]; omega
     subst hkv
     simp (maxSteps := 4000000) only [zr, zh, zx, zM, ze, zi, zm, zq, ZH, ZB, zu, zg, zp, ZD, zk, zI, Zd, zP, Z5, Qn, zS, zQ, Yg, Zk, Zl, zF, zt, z7, Zb, Zv, zl, zj, zB, zf, zd, zc, Nat.reduceEqDiff, z0, zn, List.getElem?_cons_zero, List.getElem?_cons_succ, z1, z4, z5, zL, Cells.get, getN, Nat.zero_add, if_true, if_false, reduceCtorEq, Bool.not_false, z3, pp, pv, pw, pg, Nat.add_zero, decide_false, d11, hfind, hf, gp, hfull]
     refine W.mono (SL hE c hG k v hl) ?_
     rintro ⟨v1, s1⟩ ⟨hv1, kv', vv', c', X, b⟩
     simp only at hv1 c' X b
     simp (maxSteps := 4000000) only [zr, zh, zV, ze, zi, zm, zq, zg, zk, zI, zH, zj, zf, zd, z1, zw, zG]
     exact hQ _ ⟨by unfold J2; rw [if_neg hin, if_neg hfull], kv', vv', by unfold Jl; rw [if_neg hin, if_neg hfull]; exact c', X, b⟩
def valOf (k : Int) (L : List Ent) : Int := match L[pos k L]? with
 | some x => if x.1 = k then x.2 else 0
 | none => 0
theorem N6 (c : Xg s p kv vv L room) (k : Int) :
 dcall E (d + 5) (.func (.func 21) #[] #[]) [.pointer (some ⟨p, 0, none⟩), .int .i64 k] s = some (.tuple ⟨[.int .i64 (valOf k L), .bool (YU k L)]⟩, s) := by
 have hfind := find_ok hE c k (d := d)
 have gp := c.gp
 rw [← Jg, zT hE.iGet hE.fGet rfl]
 by_cases hin : YU k L = true
 · obtain ⟨x, hx, hxk⟩ := XX hin
   have hil := (List.getElem?_eq_some_iff.1 hx).1
   have hx2 : (L.map (·.2))[pos k L]? = some x.2 := by simp [hx]
   obtain ⟨b, sp, cc, ext, hv, hr, hg⟩ := c.vs.getI hx2
   rw [List.length_map] at hv
   have hgb := hr.get
   have hval : valOf k L = x.2 := by unfold valOf; rw [hx]; simp [hxk]
   subst hv
   simp (maxSteps := 4000000) only [zr, zh, zx, zM, zV, ze, zi, zm, zq, zu, zg, zp, ZD, zk, zI, Z5, Qn, zS, zQ, Yy, Yg, Zl, zF, zt, Zv, zH, zl, zj, zB, zf, zd, zc, Nat.reduceEqDiff, z0, zn, List.getElem?_cons_zero, List.getElem?_cons_succ, z1, zw, zG, z4, z5, zL, Cells.get, getN, Nat.zero_add, Nat.blt_eq, if_true, if_false, reduceCtorEq, Bool.not_true, Bool.not_false, z3, pp, pv, Nat.add_zero, zD, Nat.mul_one, d21, hfind, hin, gp, hil, hgb, hg]
   rw [hval]
 · have hf : YU k L = false := by cases h : YU k L with | false => rfl | true => exact absurd h hin
   have hval : valOf k L = 0 := by
    unfold valOf
    unfold YU at hf
    split at hf
    · rename_i x hx; rw [hx]; simp at hf; simp [hf]
    · rename_i hx; rw [hx]
   simp (maxSteps := 4000000) only [zr, zh, zx, zM, zV, ze, Zx, zi, zm, zq, zC, zu, zg, zp, ZD, zk, zI, Z5, Qn, zS, zQ, Yg, zF, zt, Zv, zH, zl, zj, zB, zf, zd, zc, Nat.reduceEqDiff, z0, zn, List.getElem?_cons_zero, List.getElem?_cons_succ, z1, zw, zG, z4, z5, getN, if_false, reduceCtorEq, Bool.not_false, z3, pp, pv, Nat.add_zero, d21, hfind, hf, hval]
theorem Fw (c : Xg s p kv vv L room) (hG : s.Good) (k : Int) :
 W (dcall E (d + 6) (.func (.func 19) #[] #[]) [.pointer (some ⟨p, 0, none⟩), .int .i64 k] s) fun r => r.1 = .bool (YU k L) ∧ ∃ kv' vv', Xg r.2 p kv' vv' (WY k L) room ∧ Ext (own p kv vv) s r.2 ∧ ∀ j, j ∈ own p kv' vv' → j ∈ own p kv vv ∨ s.next ≤ j := by
 refine Zw fun Q hQ => ?_
 rw [zT hE.iDelete hE.fDelete rfl]
 simp (maxSteps := 4000000) only [zr, zh, ze, zi, zm, zq, ZH, ZB, zg, zp, ZD, zk, zI, Z5, zS, zQ, zF, zt, Zv, zl, zj, zB, zf, zd, zc, Nat.reduceEqDiff, z0, zn, List.getElem?_cons_zero, List.getElem?_cons_succ, z1, z4, z5, if_true, reduceCtorEq, Bool.not_false, pp, pv, pw, pg, Nat.add_zero, d19]
 refine W.mono (PX hE c hG k) ?_
 rintro ⟨v1, s1⟩ ⟨hv1, h⟩
 simp only at hv1 h
 subst hv1
 simp (maxSteps := 4000000) only [zV, ze, zi, zm, zq, zg, zp, zk, zI, Zd, zt, zH, zl, zj, zf, zd, zc, Nat.reduceEqDiff, z0, z1, zw, zG, if_true]
 exact hQ _ ⟨rfl, h⟩
theorem R7 (c : Xg s p kv vv L room) : dcall E (d + 1) (.func (.func 14) #[] #[]) [.pointer (some ⟨p, 0, none⟩)] s = some (.int .i64 (L.length : Int), s) := by
 have gp := c.gp
 obtain ⟨ak, ck, hkv⟩ := c.ks.shape
 have hkl : (Ys L).length = L.length := by unfold Ys; rw [ZX, List.length_map]
 rw [hkl] at hkv
 rw [← Jg, zT hE.iLen hE.fLen rfl]
 subst hkv
 simp (maxSteps := 4000000) only [zr, zh, zx, zM, zV, ze, zi, zm, zq, zu, zg, zp, ZD, zk, zI, Z5, zS, zQ, Zk, Zl, zt, Zv, zH, zl, zj, zf, zd, zc, z0, zn, List.getElem?_cons_zero, z1, zw, zG, zL, Cells.get, getN, if_false, reduceCtorEq, Bool.not_false, z3, pp, pv, Nat.add_zero, d14, gp]
theorem R4 (hG : s.Good) (room : Int) :
 W (dcall E (d + 1) (.func (.func 9) #[] #[]) [.int .i64 room] s) fun r => Ext [] s r.2 ∧ ((0 ≤ room ∧ room ≤ 4096 ∧ r.1 = .tuple ⟨[.pointer (some ⟨s.next, 0, none⟩), .int .i64 0]⟩ ∧ Xg r.2 s.next (.slice none 0 0) (.slice none 0 0) [] room) ∨ (¬ (0 ≤ room ∧ room ≤ 4096) ∧ r.1 = .tuple ⟨[.pointer none, .int .i64 1]⟩ ∧ r.2 = s)) := by
 refine Zw fun Q hQ => ?_
 rw [zT hE.iNew hE.fNew rfl]
 by_cases c1 : room < 0
 · simp (maxSteps := 4000000) only [zr, zh, zx, zV, ze, Zx, zi, zm, zq, ZH, XL, zC, zg, zp, zk, zI, Zd, zP, zt, z7, Zb, zH, zl, zj, zf, zd, zc, Nat.reduceEqDiff, z0, zn, List.getElem?_cons_zero, z1, zw, zG, if_true, if_false, reduceCtorEq, z3, List.nil_append, pp, pv, pw, pg, decide_true, d9, c1]
   exact hQ _ ⟨.refl, .inr ⟨by omega, rfl, rfl⟩⟩
 · by_cases c2 : 4096 < room
   · simp (maxSteps := 4000000) only [zr, zh, zx, zV, ze, Zx, zi, zm, zq, ZH, Zm, zC, zg, zp, zk, zI, Zd, zP, zt, z7, Zb, zH, zl, zj, zf, zd, zc, Nat.reduceEqDiff, z0, zn, List.getElem?_cons_zero, z1, zw, zG, if_true, if_false, reduceCtorEq, z3, pp, pv, pw, pg, decide_true, decide_false, d9, c1, c2]
     exact hQ _ ⟨.refl, .inr ⟨by omega, rfl, rfl⟩⟩
   · simp (maxSteps := 4000000) only [zr, zh, zx, zM, zV, ze, zi, zm, zq, ZH, Zm, zu, zg, zp, YA, zk, zI, Zd, zP, Yf, Xe, zt, z7, Zb, zH, zl, zj, zf, zd, zc, Nat.reduceEqDiff, z0, zn, List.getElem?_cons_zero, z1, zw, zG, Nat.zero_add, Nat.reduceAdd, zZ, zO, List.length_cons, List.length_nil, Bool.and_self, Bool.and_eq_true, Nat.beq_eq, Nat.ble_eq, Nat.le_refl, and_self, if_true, if_false, reduceCtorEq, z3, z6, List.take_zero, List.take_succ_cons, List.drop_succ_cons, List.nil_append, List.cons_append, List.drop_nil, List.append_nil, pp, pv, pw, pg, decide_false, d9, c1, c2]
     refine hQ _ ⟨Ext.new, .inl ⟨by omega, by omega, rfl, ⟨DS.new_get_self hG, (hG s.next (Nat.le_refl _)).2, .nil, .nil, by simp [blk], by simp [blk], by simp [blk], .nil, by simp⟩⟩⟩
end
end Go.Dx.StA
