/- A part. -/
import Derived.Test.YtpfkbiaikfbpeaaGreatDxVa
import Derived.Test.YtpfkbiaikfbpeaaGreatDxOut
set_option linter.unusedVariables false
set_option linter.unusedSimpArgs false
set_option linter.unusedSectionVars false
set_option maxRecDepth 100000
set_option maxHeartbeats 4000000
namespace Go.Dx.RpA
open Go Go.Dx Go.Proofs.YtpfkbiaikfbpeaaGreat
structure CFns (E : Env) : Prop where
 fcput : E.fn 183 = some d183
 icput : E.intr 183 = none
 fclow : E.fn 211 = some d211
 iclow : E.intr 211 = none
 fnum : E.fn 164 = some d164
 inum : E.intr 164 = none
 fnum1 : E.fn 210 = some d210
 inum1 : E.intr 210 = none
 lf : 10000 ≤ E.lf
structure N5 (s0 : DS) (N o : Nat) (x : Int) (size : Nat) (n : Nat) (y : St) : Prop where
 ex : ∃ j : Nat, n = size - j ∧ j ≤ size ∧ y.defers = [] ∧ (y.t.get 0 = some (.pointer (some ⟨o, 0, none⟩)) ∧ y.t.get 2 = some (.int .i64 x) ∧ y.t.get 3 = some (.int .i64 (size : Int)) ∧ y.t.get 8 = some (.pointer (some ⟨N, 0, none⟩)) ∧ y.t.get 22 = some (.int .i64 (size : Int)) ∧ y.t.get 23 = some (.int .i64 (j : Int))) ∧
  Ext [N] s0 y.s ∧ ∃ rest, y.s.get N = some (.cells (.list ((leB x j).map (fun n => .int .u8 n) ++ rest)) false) ∧ ((leB x j).map (fun n => Value.int .u8 n) ++ rest).length = 8
section
variable {E : Env} (hC : CFns E) {s : DS} {o : Nat} {bv : Value} {bs cs : List Int} {d : Nat}
include hC
theorem Fb (h : Qs s o bv bs) (hG : s.Good) {y : Value} (hy : SlV s 1 y (Zy cs)) (hlen : bs.length + cs.length ≤ 1048576) :
 W (dcall E (d + 1) (.func (.func 183) #[] #[]) [.pointer (some ⟨o, 0, none⟩), y] s) (Jo s o bv (bs ++ cs)) := by
 have go := h.go
 have wo := h.wo
 have hol := DS.get_lt' go
 obtain ⟨ab, cb, hbv⟩ := h.sl.shape
 rw [Ze] at hbv
 have hyl : ∃ a c, y = .slice a cs.length c := by
  rcases hy with ⟨rfl, h0⟩ | ⟨b, off, sp, c, rfl, _⟩
  · have : cs = [] := by simpa [Zy] using h0
    subst this
    exact ⟨none, 0, rfl⟩
  · exact ⟨_, c, by rw [Ze]⟩
 obtain ⟨ya, yc, rfl⟩ := hyl
 have w1 : zR .i64 (1048576 - (bs.length : Int)) = 1048576 - (bs.length : Int) := ZB (by omega) (by omega)
 have e1 : ¬ 1048576 - (bs.length : Int) < (cs.length : Int) := by omega
 refine Zz fun Q hQ => ?_
 rw [zF hC.icput hC.fcput rfl]
 have hsl := h.sl
 subst hbv
 simp (maxSteps := 4000000) only [zr, zf, zA, Zq, zc, zg, zn, zt, zv, ze, zu, zi, zM, zT, Za, zH, Yf, Zh, zm, zY, zP, zl, zk, zd, zb, za, Nat.reduceEqDiff, z0, zq, List.getElem?_cons_zero, List.getElem?_cons_succ, z1, zC, Cells.get, getN, Nat.zero_add, if_true, reduceCtorEq, Bool.not_true, pp, pv, Dv, Nat.add_zero, decide_true, decide_false, d183, go, w1, e1]
 refine W.mono (K8 hsl hy (Wx _) (Wx _) hG ?_ ?_) ?_
 · rw [Ze, Ze]; omega
 · rw [Ze, Ze]; omega
 rintro ⟨v1, s1⟩ ⟨h1, X1, b1, _⟩
 simp only at h1 X1 b1
 have ho : o ∉ blk (.slice ab bs.length cb) := fun hk => by have := h.up o hk; omega
 have go1 := X1.keep go ho
 have wo1 := X1.wrs wo
 obtain ⟨a1, c1, hv1⟩ := h1.shape
 have hl1 : (Zy bs ++ Zy cs).length = (bs ++ cs).length := by rw [List.length_append, Ze, Ze, List.length_append]
 rw [hl1] at hv1
 subst hv1
 simp (maxSteps := 4000000) only [Zo, zg, zn, zt, ze, zu, Zi, zi, Za, zH, Yl, zm, ZC, zl, zd, zJ, zb, za, Nat.reduceEqDiff, z0, z1, zo, zz, Nat.zero_add, Nat.reduceAdd, ZA, YD, List.length_cons, List.length_nil, allOne, zQ, Bool.and_self, Bool.and_true, Nat.beq_eq, Nat.ble_eq, Nat.reduceLeDiff, if_true, DS.wrC, Cells.size, Cells.fillFrom, Cells.set, Zd, List.length_append, Nat.add_zero, go1, wo1]
 have hup : ∀ k, k ∈ blk (.slice a1 (bs ++ cs).length c1) → o < k := fun k hk => by
  rcases b1 k hk with h2 | h2
  · exact h.up k h2
  · omega
 have X2 : ∀ ob, Ext [o] s1 (s1.upd o ob) := fun ob => Ext.upd (.inl (by simp))
 refine hQ _ ⟨rfl, .slice a1 (bs ++ cs).length c1, ⟨?_, ?_, ?_, hup, ?_⟩, ?_, b1⟩
 · simp (maxSteps := 4000000) only [DS.upd_get_self, Option.map_some, List.length_append, go1]
 · simp (maxSteps := 4000000) only [DS.upd_wr, wo1]
 · rw [V6]
   exact h1.keep (X2 _) fun k hk => by have := hup k hk; simp; omega
 · rw [List.length_append]; exact hlen
 · exact (X1.weaken (by intro k hk; exact .inl (List.mem_cons_of_mem _ hk))).trans' ((X2 _).weaken (by simp))
theorem J6 (h : Qs s o bv bs) (hG : s.Good) (x : Int) {size : Nat} (hs : size ≤ 8) (hlen : bs.length + size ≤ 1048576) :
 W (dcall E (d + 2) (.func (.func 211) #[] #[]) [.pointer (some ⟨o, 0, none⟩), .bool true, .int .i64 x, .int .i64 (size : Int)] s) (Jo s o bv (bs ++ leB x size)) := by
 have go := h.go
 have wo := h.wo
 have hol := DS.get_lt' go
 have hlf := hC.lf
 refine Zz fun Q hQ => ?_
 rw [zF hC.iclow hC.fclow rfl]
 simp (maxSteps := 4000000) (maxDischargeDepth := 8) only [zr, zf, zA, Zq, zO, zc, zg, zn, zt, ZK, z8, zv, ze, zu, zi, zM, zU, zT, Jn, Za, zH, Zh, Zp, zm, zY, zP, zl, zk, zd, zb, za, z0, zq, List.getElem?_cons_zero, List.getElem?_cons_succ, z1, zC, Cells.get, getN, Nat.zero_add, if_true, Bool.not_true, pp, pv, pw, pg, decide_true, zZ, Nat.reduceLT, Nat.lt_add_one, d211, go]
 obtain ⟨S, hS⟩ : ∃ S : DS, S = s.new (.cells (.list [.int .u8 0, .int .u8 0, .int .u8 0, .int .u8 0, .int .u8 0, .int .u8 0, .int .u8 0, .int .u8 0]) false) := ⟨_, rfl⟩
 rw [← hS]
 have XS : Ext [] s S := by rw [hS]; exact Ext.new
 have hGS := XS.good hG
 have gS : S.get s.next = some (.cells (.list [.int .u8 0, .int .u8 0, .int .u8 0, .int .u8 0, .int .u8 0, .int .u8 0, .int .u8 0, .int .u8 0]) false) := by rw [hS]; exact DS.new_get_self hG
 have wS : S.wr s.next = true := XS.wrs (hG _ (Nat.le_refl _)).2
 refine Xi (N5 S s.next o x size) size (by omega) ⟨0, rfl, Nat.zero_le _, rfl, ?_, .refl, _, by simpa [leB] using gS, by simp [leB]⟩ ?_
 · simp (maxSteps := 4000000) only [zb, za, Nat.reduceEqDiff, z0, zq, List.getElem?_cons_zero, List.getElem?_cons_succ, Bool.true_and, true_and, reduceCtorEq]
   rfl
 rintro n ⟨t, s2, ds⟩ hn ⟨j, rfl, hj, hds, ⟨g0, g2, g3, g8, g22, g23⟩, X2, rest, gN, hl8⟩
 simp only at hds g0 g2 g3 g8 g22 g23 X2 gN
 subst hds
 have wN := X2.wrs wS
 by_cases c1 : j < size
 · have e1 : (j : Int) < (size : Int) := by omega
   have w1 : zR .i64 ((j : Int) + 1) = ((j + 1 : Nat) : Int) := by rw [ZB (by omega) (by omega)]; omega
   have w2 : zR .i64 (8 * (j : Int)) = ((8 * j : Nat) : Int) := by rw [ZB (by omega) (by omega)]; omega
   have hsh : ZZ .shr .u64 (zR .u64 x) ((8 * j : Nat) : Int) = some (.int .u64 ((zR .u64 x).fdiv (Int.ofNat (2 ^ (8 * j))))) := by
    unfold ZZ
    rw [if_neg (by omega)]
    have e2 : Nat.ble (bitsOf .u64) ((8 * j : Nat) : Int).toNat = false := by rw [YB]; simp [bitsOf]; omega
    simp only [e2, z3, if_false]
    rfl
   have e8 : j < 8 := by omega
   have hlj : (leB x j).length = j := ZI x j
   have hsize : j + 1 ≤ (leB x j).length + rest.length := by
    rw [List.length_append, List.length_map] at hl8; omega
   simp (maxSteps := 4000000) only [zr, zf, zA, Zq, zO, zc, Zo, zg, ZU, zn, zt, zS, ze, zu, Zi, zi, zM, zT, Jl, Yl, zm, zY, zP, zl, zk, zd, zJ, zb, za, Nat.reduceEqDiff, z0, z1, Nat.zero_add, ZA, Zg, List.length_cons, List.length_nil, allOne, zQ, Bool.and_self, Bool.and_true, Nat.beq_eq, Nat.ble_eq, Nat.blt_eq, if_true, DS.wrC, Cells.size, Cells.fillFrom, Cells.set, List.length_append, zW, Nat.mul_one, decide_true, Wj, g0, g2, g3, g8, g22, g23, e1, w1, w2, hsh, e8, gN, wN, List.length_map, hsize]
   have hset : ∃ r2, Zd ((leB x j).map (fun n => Value.int .u8 n) ++ rest) j (.int .u8 (leI x j)) = (leB x (j + 1)).map (fun n => .int .u8 n) ++ r2 ∧ ((leB x (j + 1)).map (fun n => Value.int .u8 n) ++ r2).length = 8 := by
    refine ⟨rest.drop 1, ?_, ?_⟩
    · rw [QN, List.set_append_right _ _ (by rw [List.length_map, hlj]; exact Nat.le_refl _), JW, List.map_append, List.append_assoc]
      congr 1
      rw [List.length_map, hlj, Nat.sub_self]
      cases rest with
      | nil => simp at hsize; omega
      | cons a r => simp
    · rw [JW]
      simp only [List.length_append, List.length_map, List.length_cons, List.length_nil, List.length_drop] at hl8 ⊢
      omega
   obtain ⟨r2, hr2, hl2⟩ := hset
   rw [show zR .u8 ((zR .u64 x).fdiv (Int.ofNat (2 ^ (8 * j)))) = leI x j from rfl, hr2]
   refine ⟨size - (j + 1), by omega, ⟨j + 1, rfl, by omega, rfl, by simp (maxSteps := 4000000) only [zb, za, Nat.reduceEqDiff, z0, Bool.and_self, and_self, reduceCtorEq, g0, g2, g3, g8, g22, g23], X2.trans' (Ext.upd (.inl (by simp))), r2, ?_, hl2⟩⟩
   simp (maxSteps := 4000000) only [DS.upd_get_self, Option.map_some, gN]
 · obtain rfl : j = size := by omega
   have e1 : ¬ (j : Int) < (j : Int) := by omega
   have hbd : ZQ 8 8 none (some (.int .i64 (j : Int))) none = some (0, j, 8) := by
    unfold ZQ
    simp only [zW, Nat.ble_eq.mpr hs, if_true]
   simp (maxSteps := 4000000) only [zr, zf, zA, Xj, zc, Z9, Yb, zg, Ya, zn, zt, zv, ze, zu, zi, zM, zT, zB, zm, zY, zP, zl, zy, zd, zb, za, Nat.reduceEqDiff, z0, z1, z4, z5, if_true, reduceCtorEq, Option.map_some, Option.map_none, Nat.add_zero, Nat.mul_one, decide_false, Q2, g0, g2, g3, g8, g22, g23, e1, hbd, Ye]
   have h2 : Qs s2 o bv bs := by
    have X := XS.trans X2 (by simp)
    exact ⟨X.keep h.go (by simp), X.wrs h.wo, h.sl.keep X (by simp), h.up, h.len⟩
   have hv : SlV s2 1 (.slice (some ⟨s.next, 0, none⟩) j 8) (Zy (leB x j)) := by
    refine .inr ⟨s.next, 0, none, 8, by rw [Ze, ZI], ?_⟩
    have hfl : (Zy (leB x j)).flatten = (leB x j).map fun n => .int .u8 n := by
     have : ∀ l : List Int, (Zy l).flatten = l.map fun n => .int .u8 n := fun l => by
      induction l with
      | nil => rfl
      | cons a l ih => unfold Zy at ih ⊢; simp [ih]
     exact this _
    unfold DS.read
    rw [gN]
    simp only
    rw [Ze, ZI, Nat.mul_one, ZL _ _ _ (by omega), hfl]
    simp only [List.drop_zero]
    rw [List.take_append_of_le_length (by rw [List.length_map, ZI]; exact Nat.le_refl _), List.take_of_length_le (by rw [List.length_map, ZI]; exact Nat.le_refl _)]
   refine W.mono (Fb hC h2 (X2.good hGS) hv (by rw [ZI]; exact hlen)) ?_
   rintro ⟨v3, s3⟩ h3
   have hv3 := h3.val
   simp only at hv3
   subst hv3
   simp (maxSteps := 4000000) only [zg, zn, ze, zi, ZC, zd, zo, zz]
   refine hQ _ ⟨rfl, ?_⟩
   have X := XS.trans X2 (F := []) (by simp)
   exact (Jo.next (X.weaken (by simp)) (fun k hk => .inl hk) h3).ex
def Vw (_ : Nat) (_ : DS) (v : Value) (x : Int) : Prop := v = .int .i64 x
omit hC in
theorem Wc : XM Vw := ⟨fun _ _ _ _ _ h _ => h, fun _ _ _ _ _ h _ => h⟩
def Jt (size : Nat) (most : Int) (x : Int) : Prop := size = 8 ∨ (0 ≤ x ∧ x ≤ most)
theorem JR {b1 b2 size : Nat} {most : Int} (hs : size ≤ 8) :
 Ws E 3 (.func (.func 210) #[] #[.pointer (some ⟨b1, 0, none⟩), .pointer (some ⟨b2, 0, none⟩)]) [(b1, .cells (.list [.int .i64 (size : Int)]) false), (b2, .cells (.list [.int .i64 most]) false)] Vw (Jt size most) (fun x => leB x size) := by
 intro d s o bv bs v x hD hb h hG hv hx hlen
 have hv : v = .int .i64 x := hv
 subst hv
 have g1 := hD _ (List.mem_cons_self ..)
 have g2 := hD (b2, _) (List.mem_cons_of_mem _ (List.mem_cons_self ..))
 simp only at g1 g2
 rw [ZI] at hlen
 refine Zz fun Q hQ => ?_
 rw [Wq hC.inum1 hC.fnum1 rfl]
 by_cases c1 : size = 8
 · subst c1
   have h8 : ((8 : Nat) : Int) = 8 := rfl
   rw [h8] at g1
   have hcl := J6 (d := d) hC h hG x (size := 8) (Nat.le_refl _) hlen
   rw [h8] at hcl
   simp (maxSteps := 4000000) only [zf, zt, ZK, ZH, ze, zu, zi, zM, zU, zT, Zh, zB, zm, zY, zP, zl, zk, zy, zd, zb, za, Nat.reduceEqDiff, z0, zq, List.getElem?_cons_zero, List.getElem?_cons_succ, z1, z4, z5, zC, Cells.get, getN, if_true, if_false, z3, List.nil_append, List.cons_append, pp, pv, pw, pg, decide_true, WM, d210, g1, g2]
   refine W.mono hcl ?_
   rintro ⟨v3, s3⟩ h3
   simp (maxSteps := 4000000) only [zg, zn, ze, zi, ZC, zd, zo, zz]
   exact hQ _ ⟨rfl, h3.ex⟩
 · have e1 : ¬ (size : Int) = 8 := by omega
   have hx : 0 ≤ x ∧ x ≤ most := by
    rcases hx with h | h
    · exact absurd h c1
    · exact h
   obtain ⟨e2, e3⟩ := hx
   simp (maxSteps := 4000000) only [zf, zt, ZK, z8, zV, ze, zu, zi, zM, zU, zT, Zh, zB, zm, zY, zP, zl, zk, zy, zd, zb, za, Nat.reduceEqDiff, z0, zq, List.getElem?_cons_zero, List.getElem?_cons_succ, z1, z4, z5, zC, Cells.get, getN, if_true, if_false, z3, List.nil_append, List.cons_append, pp, pv, pw, pg, decide_true, decide_false, d210, g1, g2, e1, e2, e3]
   refine W.mono (J6 hC h hG x hs hlen) ?_
   rintro ⟨v3, s3⟩ h3
   simp (maxSteps := 4000000) only [zg, zn, ze, zi, ZC, zd, zo, zz]
   exact hQ _ ⟨rfl, h3.ex⟩
theorem Qv (hG : s.Good) (size most : Int) :
 W (dcall E (d + 1) (.func (.func 164) #[] #[]) [.int .i64 size, .int .i64 most] s) fun r => r.1 = .agg ⟨[.func (.func 210) #[] #[.pointer (some ⟨s.next, 0, none⟩), .pointer (some ⟨s.next + 1, 0, none⟩)], .func (.func 212) #[] #[.pointer (some ⟨s.next, 0, none⟩), .pointer (some ⟨s.next + 1, 0, none⟩)]]⟩ ∧
  r.2.get s.next = some (.cells (.list [.int .i64 size]) false) ∧ r.2.get (s.next + 1) = some (.cells (.list [.int .i64 most]) false) ∧ Ext [] s r.2 ∧ r.2.next = s.next + 3 := by
 refine Zz fun Q hQ => ?_
 rw [zF hC.inum hC.fnum rfl]
 simp (maxSteps := 4000000) (maxDischargeDepth := 8) only [zr, zf, zI, zc, zg, zn, zt, ze, Zi, Z3, zi, ZG, Qr, Yl, Zp, Z4, z9, zx, zl, zd, zJ, zb, za, z0, zq, List.getElem?_cons_zero, List.getElem?_cons_succ, z1, zo, zz, z4, z5, Cells.get, getN, Nat.zero_add, Nat.reduceAdd, ZA, Zg, cells_func, zD, List.length_cons, List.length_nil, allOne, zQ, Bool.and_self, Bool.and_true, Bool.and_eq_true, Nat.beq_eq, Nat.ble_eq, Nat.reduceLeDiff, Nat.le_refl, and_self, if_true, DS.wrC, Cells.size, Cells.fillFrom, Cells.set, Zd, zL, List.take_zero, List.take_succ_cons, List.drop_succ_cons, List.drop_zero, List.nil_append, List.cons_append, List.drop_nil, List.append_nil, pp, DS.upd_get_self, Option.map_some, z7, wrN, DS.read, Cells.take, zw, zK, Yq, zZ, Nat.add_assoc, Nat.reduceLT, Nat.lt_add_one, d164, hG]
 refine hQ _ ⟨rfl, ?_, ?_, ?_, ?_⟩
 · simp (maxSteps := 4000000) (maxDischargeDepth := 8) only [z0, Nat.reduceAdd, DS.upd_get_ne, z7, zw, zE, zK, zZ, Z0, Nat.add_assoc, Nat.lt_add_one, Nat.succ_pos, hG]
 · simp (maxSteps := 4000000) (maxDischargeDepth := 8) only [z0, Nat.reduceAdd, DS.upd_get_ne, z7, zw, zE, zK, zZ, Nat.add_assoc, Nat.lt_add_one, hG]
 · exact (Ext.new.trans' (Ext.new.trans' Ext.new)).trans (Ext.upd (F := [s.next + 2]) (.inl (by simp))) (by simp)
 · simp (maxSteps := 4000000) (maxDischargeDepth := 8) only [Nat.reduceAdd, DS.upd_next, z7, Nat.add_assoc]
section
variable {α β : Type}
def GY (Ra : Nat → DS → Value → α → Prop) (Rb : Nat → DS → Value → β → Prop) (o : Nat) (s : DS) (v : Value) (x : α × β) : Prop := ∃ a b : Value, v = .agg ⟨a.cells.toList ++ b.cells.toList⟩ ∧ Ra o s a x.1 ∧ Rb o s b x.2
omit hC in
theorem KY {α β : Type} {Ra : Nat → DS → Value → α → Prop} {Rb : Nat → DS → Value → β → Prop} (ha : XM Ra) (hb : XM Rb) : XM (GY Ra Rb) :=
 ⟨fun o s s' v x ⟨a, b, e, h1, h2⟩ hs => ⟨a, b, e, ha.stab _ _ _ _ _ h1 hs, hb.stab _ _ _ _ _ h2 hs⟩, fun o o' s v x ⟨a, b, e, h1, h2⟩ hs => ⟨a, b, e, ha.mono _ _ _ _ _ h1 hs, hb.mono _ _ _ _ _ h2 hs⟩⟩
end
theorem Dm {f1 f2 : Nat} {fp fg gp gg : Value} {α β : Type} {n : Nat} {Df Dg : List (Nat × DObj)} {Ra : Nat → DS → Value → α → Prop} {Rb : Nat → DS → Value → β → Prop} {Oka : α → Prop} {Okb : β → Prop} {ea : α → List Int} {eb : β → List Int}
 (ha : Ws E n fp Df Ra Oka ea) (hb : Ws E n gp Dg Rb Okb eb) (sa : XM Ra) (sb : XM Rb) (ca : ∀ o s v x, Ra o s v x → (∃ n, v = .int .i64 n)) (cb : ∀ o s v x, Rb o s v x → (∃ n, v = .int .i64 n)) (hcode : E.fn 167 = some d167) (hintr : E.intr 167 = none) :
 Ws E (n + 1) (.func (.func 167) #[] #[.pointer (some ⟨f1, 0, none⟩), .pointer (some ⟨f2, 0, none⟩)]) ((f1, .cells (.list [fp, fg]) false) :: (f2, .cells (.list [gp, gg]) false) :: (Df ++ Dg)) (GY Ra Rb) (fun x => Oka x.1 ∧ Okb x.2) (fun x => ea x.1 ++ eb x.2) := by
 intro d s o bv bs v x hD hb2 h hG hv hx hlen
 obtain ⟨a, b, rfl, hra, hrb⟩ := hv
 have g1 := hD _ (List.mem_cons_self ..)
 have g2 := hD (f2, _) (List.mem_cons_of_mem _ (List.mem_cons_self ..))
 have l1 := hb2 _ (List.mem_cons_self ..)
 have l2 := hb2 (f2, _) (List.mem_cons_of_mem _ (List.mem_cons_self ..))
 simp only at g1 g2 l1 l2
 have hDf : QD s Df := hD.sub fun p hp => List.mem_cons_of_mem _ (List.mem_cons_of_mem _ (List.mem_append_left _ hp))
 have hDg : QD s Dg := hD.sub fun p hp => List.mem_cons_of_mem _ (List.mem_cons_of_mem _ (List.mem_append_right _ hp))
 have lf : ∀ p, p ∈ Df → p.1 < o := fun p hp => hb2 p (List.mem_cons_of_mem _ (List.mem_cons_of_mem _ (List.mem_append_left _ hp)))
 have lg : ∀ p, p ∈ Dg → p.1 < o := fun p hp => hb2 p (List.mem_cons_of_mem _ (List.mem_cons_of_mem _ (List.mem_append_right _ hp)))
 have hol := DS.get_lt' h.go
 have l1s : f1 < s.next := Nat.lt_trans l1 hol
 have l2s : f2 < s.next := Nat.lt_trans l2 hol
 rw [List.length_append] at hlen
 have hca := ca _ _ _ _ hra
 have hcb := cb _ _ _ _ hrb
 refine Zz fun Q hQ => ?_
 show W (dcall E ((d + n) + 1) _ _ _) Q
 rw [Wq hintr hcode rfl]
 obtain ⟨a, rfl⟩ := hca
 obtain ⟨b, rfl⟩ := hcb
 simp (maxSteps := 4000000) (maxDischargeDepth := 8) only [zr, zf, zc, zg, zn, zt, ze, zu, zi, zM, zH, Zh, Z4, zB, zm, zl, zd, zb, za, z0, zq, List.getElem?_cons_zero, List.getElem?_cons_succ, z1, z4, z5, zC, Cells.get, getN, Zg, zD, List.nil_append, List.cons_append, pp, pv, Nat.add_zero, zw, zE, zZ, Nat.reduceLT, Nat.lt_add_one, Nat.succ_pos, d167, g1, g2, hG, l1s, l2s]
 obtain ⟨S1, hS1⟩ : ∃ S1 : DS, S1 = s.new (.cells (.list [.int .i64 a, .int .i64 b]) false) := ⟨_, rfl⟩
 rw [← hS1]
 have X1 : ∀ F, Ext F s S1 := fun F => by rw [hS1]; exact Ext.new
 have gS : S1.get s.next = some (.cells (.list [.int .i64 a, .int .i64 b]) false) := by rw [hS1]; exact DS.new_get_self hG
 have Y1 : Same o s S1 := fun k hk => (X1 []).get k (Nat.lt_trans hk hol) (by simp)
 have O1 : Qs S1 o bv bs := ⟨(X1 []).keep h.go (by simp), (X1 []).wrs h.wo, h.sl.keep (X1 []) (by simp), h.up, h.len⟩
 refine W.mono (ha d S1 o bv bs _ x.1 (hDf.keep (X1 []) (by simp)) lf O1 ((X1 []).good hG) (sa.stab _ _ _ _ _ hra Y1) hx.1 (by omega)) ?_
 rintro ⟨v2, s2⟩ ⟨hv2, bv2, O2, X2, b2⟩
 simp only at hv2 O2 X2 b2
 have Y2 := KW O1 X2
 have YY := Y1.trans Y2
 have gS2 := X2.keep gS (by
  simp only [List.mem_cons, not_or]
  exact ⟨by omega, fun hk => by have := h.sl.lt _ hk; omega⟩)
 have g22 := (YY f2 l2).trans g2
 simp (maxSteps := 4000000) only [zf, zc, zg, zn, zt, ze, zu, zi, zM, zH, Zh, zB, zm, zl, zd, zb, za, Nat.reduceEqDiff, z0, zq, List.getElem?_cons_zero, List.getElem?_cons_succ, z1, z4, z5, zC, Cells.get, getN, Nat.zero_add, reduceCtorEq, Nat.add_zero, gS2, g22]
 refine W.mono (hb d s2 o bv2 (bs ++ ea x.1) _ x.2 (hDg.same lg YY) lg O2 (X2.good ((X1 []).good hG)) (sb.stab _ _ _ _ _ hrb YY) hx.2 (by rw [List.length_append]; omega)) ?_
 rintro ⟨v3, s3⟩ h3
 have hv3 := h3.val
 simp only at hv3
 subst hv3
 have X12 : Ext (o :: blk bv) s s2 := (X1 _).trans' X2
 have h4 := Jo.next X12 (fun k hk => by
  rcases b2 k hk with h | h
  · exact .inl h
  · exact .inr (Nat.le_trans (X1 []).le h)) h3
 simp (maxSteps := 4000000) only [zg, zn, ze, zi, ZC, zd, zo, zz]
 refine hQ _ ?_
 rw [← List.append_assoc]
 exact h4
theorem Dn {f1 f2 : Nat} {fp fg gp gg : Value} {α β : Type} {n : Nat} {Df Dg : List (Nat × DObj)} {Ra : Nat → DS → Value → α → Prop} {Rb : Nat → DS → Value → β → Prop} {Oka : α → Prop} {Okb : β → Prop} {ea : α → List Int} {eb : β → List Int}
 (ha : Ws E n fp Df Ra Oka ea) (hb : Ws E n gp Dg Rb Okb eb) (sa : XM Ra) (sb : XM Rb) (ca : ∀ o s v x, Ra o s v x → (∃ n, v = .int .i64 n)) (cb : ∀ o s v x, Rb o s v x → (∃ b n c, v = .slice b n c)) (hcode : E.fn 162 = some d162) (hintr : E.intr 162 = none) :
 Ws E (n + 1) (.func (.func 162) #[] #[.pointer (some ⟨f1, 0, none⟩), .pointer (some ⟨f2, 0, none⟩)]) ((f1, .cells (.list [fp, fg]) false) :: (f2, .cells (.list [gp, gg]) false) :: (Df ++ Dg)) (GY Ra Rb) (fun x => Oka x.1 ∧ Okb x.2) (fun x => ea x.1 ++ eb x.2) := by
 intro d s o bv bs v x hD hb2 h hG hv hx hlen
 obtain ⟨a, b, rfl, hra, hrb⟩ := hv
 have g1 := hD _ (List.mem_cons_self ..)
 have g2 := hD (f2, _) (List.mem_cons_of_mem _ (List.mem_cons_self ..))
 have l1 := hb2 _ (List.mem_cons_self ..)
 have l2 := hb2 (f2, _) (List.mem_cons_of_mem _ (List.mem_cons_self ..))
 simp only at g1 g2 l1 l2
 have hDf : QD s Df := hD.sub fun p hp => List.mem_cons_of_mem _ (List.mem_cons_of_mem _ (List.mem_append_left _ hp))
 have hDg : QD s Dg := hD.sub fun p hp => List.mem_cons_of_mem _ (List.mem_cons_of_mem _ (List.mem_append_right _ hp))
 have lf : ∀ p, p ∈ Df → p.1 < o := fun p hp => hb2 p (List.mem_cons_of_mem _ (List.mem_cons_of_mem _ (List.mem_append_left _ hp)))
 have lg : ∀ p, p ∈ Dg → p.1 < o := fun p hp => hb2 p (List.mem_cons_of_mem _ (List.mem_cons_of_mem _ (List.mem_append_right _ hp)))
 have hol := DS.get_lt' h.go
 have l1s : f1 < s.next := Nat.lt_trans l1 hol
 have l2s : f2 < s.next := Nat.lt_trans l2 hol
 rw [List.length_append] at hlen
 have hca := ca _ _ _ _ hra
 have hcb := cb _ _ _ _ hrb
 refine Zz fun Q hQ => ?_
 show W (dcall E ((d + n) + 1) _ _ _) Q
 rw [Wq hintr hcode rfl]
 obtain ⟨a, rfl⟩ := hca
 obtain ⟨b1, b2, b3, rfl⟩ := hcb
 simp (maxSteps := 4000000) (maxDischargeDepth := 8) only [zr, zf, zc, zg, zn, zt, ze, zu, zi, zM, zH, Zh, Z4, zB, zm, zl, zd, zb, za, z0, zq, List.getElem?_cons_zero, List.getElem?_cons_succ, z1, z4, z5, zC, Cells.get, getN, Zg, YD, zD, List.nil_append, List.cons_append, pp, pv, Nat.add_zero, zw, zE, zZ, Nat.reduceLT, Nat.lt_add_one, Nat.succ_pos, d162, g1, g2, hG, l1s, l2s]
 obtain ⟨S1, hS1⟩ : ∃ S1 : DS, S1 = s.new (.cells (.list [.int .i64 a, .slice b1 b2 b3]) false) := ⟨_, rfl⟩
 rw [← hS1]
 have X1 : ∀ F, Ext F s S1 := fun F => by rw [hS1]; exact Ext.new
 have gS : S1.get s.next = some (.cells (.list [.int .i64 a, .slice b1 b2 b3]) false) := by rw [hS1]; exact DS.new_get_self hG
 have Y1 : Same o s S1 := fun k hk => (X1 []).get k (Nat.lt_trans hk hol) (by simp)
 have O1 : Qs S1 o bv bs := ⟨(X1 []).keep h.go (by simp), (X1 []).wrs h.wo, h.sl.keep (X1 []) (by simp), h.up, h.len⟩
 refine W.mono (ha d S1 o bv bs _ x.1 (hDf.keep (X1 []) (by simp)) lf O1 ((X1 []).good hG) (sa.stab _ _ _ _ _ hra Y1) hx.1 (by omega)) ?_
 rintro ⟨v2, s2⟩ ⟨hv2, bv2, O2, X2, b2⟩
 simp only at hv2 O2 X2 b2
 have Y2 := KW O1 X2
 have YY := Y1.trans Y2
 have gS2 := X2.keep gS (by
  simp only [List.mem_cons, not_or]
  exact ⟨by omega, fun hk => by have := h.sl.lt _ hk; omega⟩)
 have g22 := (YY f2 l2).trans g2
 simp (maxSteps := 4000000) only [zf, zc, zg, zn, zt, ze, zu, zi, zM, zH, Zh, zB, zm, zl, zd, zb, za, Nat.reduceEqDiff, z0, zq, List.getElem?_cons_zero, List.getElem?_cons_succ, z1, z4, z5, zC, Cells.get, getN, Nat.zero_add, reduceCtorEq, Nat.add_zero, gS2, g22]
 refine W.mono (hb d s2 o bv2 (bs ++ ea x.1) _ x.2 (hDg.same lg YY) lg O2 (X2.good ((X1 []).good hG)) (sb.stab _ _ _ _ _ hrb YY) hx.2 (by rw [List.length_append]; omega)) ?_
 rintro ⟨v3, s3⟩ h3
 have hv3 := h3.val
 simp only at hv3
 subst hv3
 have X12 : Ext (o :: blk bv) s s2 := (X1 _).trans' X2
 have h4 := Jo.next X12 (fun k hk => by
  rcases b2 k hk with h | h
  · exact .inl h
  · exact .inr (Nat.le_trans (X1 []).le h)) h3
 simp (maxSteps := 4000000) only [zg, zn, ze, zi, ZC, zd, zo, zz]
 refine hQ _ ?_
 rw [← List.append_assoc]
 exact h4
def GZ {α : Type} (sz : Nat) (R : Nat → DS → Value → α → Prop) (o : Nat) (s : DS) (v : Value) (xs : List α) : Prop := ∃ l : List (List Value), l.length = xs.length ∧ ZR sz l ∧ ((v = .slice none 0 0 ∧ l = []) ∨ ∃ b off sp c, v = .slice (some ⟨b, off, sp⟩) l.length c ∧ b < o ∧ s.read b off (l.length * sz) = some l.flatten) ∧ ∀ (i : Nat) (r : List Value) (x : α), l[i]? = some r → xs[i]? = some x → R o s (.agg ⟨r⟩) x
omit hC in
theorem JP {α : Type} {sz : Nat} {R : Nat → DS → Value → α → Prop} (h : XM R) : XM (GZ sz R) := ⟨fun o s s' v xs ⟨l, h1, h2, h3, h4⟩ hs => ⟨l, h1, h2, by
 rcases h3 with h3 | ⟨b, off, sp, c, e1, e2, e3⟩
 · exact .inl h3
 · refine .inr ⟨b, off, sp, c, e1, e2, ?_⟩
   unfold DS.read at e3 ⊢
   rw [hs b e2]; exact e3, fun i r x hr hx => h.stab _ _ _ _ _ (h4 i r x hr hx) hs⟩, fun o o' s v xs ⟨l, h1, h2, h3, h4⟩ hs => ⟨l, h1, h2, by
 rcases h3 with h3 | ⟨b, off, sp, c, e1, e2, e3⟩
 · exact .inl h3
 · exact .inr ⟨b, off, sp, c, e1, Nat.lt_of_lt_of_le e2 hs, e3⟩, fun i r x hr hx => h.mono _ _ _ _ _ (h4 i r x hr hx) hs⟩⟩
def Xr {α : Type} (e : α → List Int) (xs : List α) : List Int := xs.flatMap e
structure RQ {α : Type} (s0 : DS) (o c1 f1 : Nat) (bv v : Value) (bs : List Int) (e : α → List Int) (xs : List α) (n : Nat) (y : St) : Prop where
 ex : ∃ j : Nat, n = xs.length - j ∧ j ≤ xs.length ∧ y.defers = [] ∧ (y.t.get 0 = some (.pointer (some ⟨o, 0, none⟩)) ∧ y.t.get 1 = some v ∧ y.t.get 3 = some (.pointer (some ⟨f1, 0, none⟩)) ∧ y.t.get 6 = some (.int .i64 (j : Int))) ∧
  y.s.Good ∧ Jo s0 o bv (bs ++ Xr e (xs.take j)) (.tuple #[], y.s)
theorem FN {c1 f1 : Nat} {cp cg fp fg : Value} {α : Type} {n : Nat} {Dc Df : List (Nat × DObj)} {R : Nat → DS → Value → α → Prop} {Ok : α → Prop} {e : α → List Int}
 (hc : Ws E n cp Dc Vw (Jt 2 4096) (fun x => leB x 2)) (hf : Ws E n fp Df R Ok e) (sR : XM R) (hcode : E.fn 165 = some d165) (hintr : E.intr 165 = none) :
 Ws E (n + 1) (.func (.func 165) #[] #[.pointer (some ⟨c1, 0, none⟩), .pointer (some ⟨f1, 0, none⟩)]) ((c1, .cells (.list [cp, cg]) false) :: (f1, .cells (.list [fp, fg]) false) :: (Dc ++ Df)) (GZ 2 R) (fun xs => xs.length ≤ 4096 ∧ ∀ x, x ∈ xs → Ok x) (fun xs => leB xs.length 2 ++ Xr e xs) := by
 intro d s o bv bs v xs hD hb2 h hG hv hx hlen
 have g1 := hD _ (List.mem_cons_self ..)
 have g2 := hD (f1, _) (List.mem_cons_of_mem _ (List.mem_cons_self ..))
 have l1 := hb2 _ (List.mem_cons_self ..)
 have l2 := hb2 (f1, _) (List.mem_cons_of_mem _ (List.mem_cons_self ..))
 simp only at g1 g2 l1 l2
 have hDc : QD s Dc := hD.sub fun p hp => List.mem_cons_of_mem _ (List.mem_cons_of_mem _ (List.mem_append_left _ hp))
 have hDf : QD s Df := hD.sub fun p hp => List.mem_cons_of_mem _ (List.mem_cons_of_mem _ (List.mem_append_right _ hp))
 have lc : ∀ p, p ∈ Dc → p.1 < o := fun p hp => hb2 p (List.mem_cons_of_mem _ (List.mem_cons_of_mem _ (List.mem_append_left _ hp)))
 have lf : ∀ p, p ∈ Df → p.1 < o := fun p hp => hb2 p (List.mem_cons_of_mem _ (List.mem_cons_of_mem _ (List.mem_append_right _ hp)))
 have hol := DS.get_lt' h.go
 have hlf := hC.lf
 have hvl : ∃ a c, v = .slice a xs.length c := by
  obtain ⟨l, h1, _, h3 | ⟨b, off, sp, c, e1, _⟩, _⟩ := hv
  · obtain ⟨rfl, rfl⟩ := h3
    rw [← h1]; exact ⟨none, 0, rfl⟩
  · rw [← h1]; exact ⟨_, c, e1⟩
 obtain ⟨va, vc, hvv⟩ := hvl
 rw [List.length_append, ZI] at hlen
 refine Zz fun Q hQ => ?_
 show W (dcall E ((d + n) + 1) _ _ _) Q
 rw [Wq hintr hcode rfl]
 subst hvv
 simp (maxSteps := 4000000) only [zr, zf, zt, ze, zu, zi, zM, zH, Yf, Zh, zB, zm, zl, zd, zb, za, Nat.reduceEqDiff, z0, zq, List.getElem?_cons_zero, List.getElem?_cons_succ, z1, z4, z5, zC, Cells.get, getN, reduceCtorEq, List.nil_append, List.cons_append, pp, pv, pw, pg, Nat.add_zero, d165, g1]
 refine W.mono (hc d s o bv bs _ (xs.length : Int) hDc lc h hG rfl (.inr ⟨by omega, by omega⟩) (by rw [ZI]; omega)) ?_
 rintro ⟨v2, s2⟩ h2
 have hv2 := h2.val
 simp only at hv2
 subst hv2
 simp (maxSteps := 4000000) only [zr, zf, Zq, zc, zg, zn, zt, ze, zM, zk, zd]
 have hG2 : s2.Good := by obtain ⟨_, _, _, X, _⟩ := h2; exact X.good hG
 refine Xi (RQ s o c1 f1 bv (.slice va xs.length vc) (bs ++ leB xs.length 2) e xs) xs.length (by omega) ⟨0, rfl, Nat.zero_le _, rfl, ?_, hG2, by simpa [Xr] using h2⟩ ?_
 · simp (maxSteps := 4000000) only [zb, za, Nat.reduceEqDiff, z0, zq, List.getElem?_cons_zero, List.getElem?_cons_succ, Bool.true_and, true_and, reduceCtorEq]
   rfl
 rintro m ⟨t, s3, ds⟩ hm ⟨j, rfl, hj, hds, ⟨g0, gv, g3, g6⟩, hG3, ⟨_, bv3, O3, X3, b3⟩⟩
 simp only at hds g0 gv g3 g6 hG3 O3 X3 b3
 subst hds
 have Y3 := KW h X3
 by_cases c2 : j < xs.length
 · have hx0 : xs[j]? = some xs[j] := List.getElem?_eq_getElem c2
   generalize xs[j] = x0 at hx0
   obtain ⟨l, hl1, hl2, hl3, hl4⟩ := (JP (sz := 2) sR).stab _ _ _ _ _ hv Y3
   have hr0 : l[j]? = some l[j] := List.getElem?_eq_getElem (by omega)
   generalize l[j] = r0 at hr0
   rcases hl3 with ⟨h8, h9⟩ | ⟨b, off, sp, c, h8, h9, h10⟩
   · rw [h9] at hl1; simp at hl1; omega
   rw [hl1] at h8
   cases h8
   have hld : ldA 2 (.pointer (some ⟨b, off + j * 2, none⟩)) s3 = some (.agg ⟨r0⟩) := by
    unfold ldA
    simp only [FB h10 hl2.len hr0]
   have e1 : (j : Int) < (xs.length : Int) := by omega
   have go3 := O3.go
   have g23 := (Y3 f1 l2).trans g2
   have w1 : zR .i64 ((j : Int) + 1) = ((j + 1 : Nat) : Int) := by rw [ZB (by omega) (by omega)]; omega
   simp (maxSteps := 4000000) (maxDischargeDepth := 8) only [zr, zf, zA, Zq, zO, zc, zg, zn, zt, ZK, z8, zS, ze, zu, zi, zM, zU, zT, Za, zH, GO, Yf, Zh, zB, zm, zY, zP, zl, zk, zd, zb, za, z0, z1, z4, z5, zC, Cells.get, getN, Nat.zero_add, Nat.blt_eq, if_true, Q3, Nat.add_zero, zW, decide_true, zZ, Nat.reduceLT, Nat.lt_add_one, Nat.succ_pos, g0, gv, g3, g6, e1, go3, c2, g23, hld]
   have hcat : Xr e (xs.take (j + 1)) = Xr e (xs.take j) ++ e x0 := by
    unfold Xr
    rw [List.take_add_one, List.flatMap_append]
    simp [hx0]
   have hle : (Xr e (xs.take (j + 1))).length ≤ (Xr e xs).length := by
    unfold Xr
    have : xs = xs.take (j + 1) ++ xs.drop (j + 1) := (List.take_append_drop _ _).symm
    conv => rhs; rw [this, List.flatMap_append, List.length_append]
    exact Nat.le_add_right _ _
   refine W.mono (hf d s3 o bv3 _ _ x0 (hDf.same lf Y3) lf O3 hG3 (hl4 j r0 x0 hr0 hx0) (hx.2 _ (List.mem_of_getElem? hx0)) ?_) ?_
   · rw [hcat] at hle
     simp only [List.length_append, ZI] at hle ⊢
     omega
   rintro ⟨v4, s4⟩ h4
   have hv4 := h4.val
   simp only at hv4
   subst hv4
   have hG4 : s4.Good := by obtain ⟨_, _, _, X, _⟩ := h4; exact X.good hG3
   simp (maxSteps := 4000000) (maxDischargeDepth := 8) only [zf, zc, Zo, zg, ZU, zn, zt, ze, zu, zi, zM, zT, zY, zP, zl, zk, zd, zb, za, z0, z1, if_true, zZ, Nat.reduceLT, g0, gv, g3, g6, w1]
   refine ⟨xs.length - (j + 1), by omega, ⟨j + 1, rfl, by omega, rfl, by simp (maxSteps := 4000000) only [zb, za, Nat.reduceEqDiff, z0, Bool.and_self, and_self, reduceCtorEq, g0, gv, g3, g6], hG4, ?_⟩⟩
   rw [hcat, ← List.append_assoc]
   exact Jo.next X3 b3 h4
 · obtain rfl : j = xs.length := by omega
   have e1 : ¬ (xs.length : Int) < (xs.length : Int) := by omega
   simp (maxSteps := 4000000) only [zr, zf, zA, Xj, zc, Z9, Yb, zg, Ya, zn, zt, ZK, Zu, zv, ze, zu, zi, zM, zU, zT, Yf, zm, zY, zP, ZC, zl, zk, zd, zb, za, Nat.reduceEqDiff, z0, z1, zo, zz, if_true, if_false, z3, List.nil_append, decide_false, g0, gv, g3, g6, e1]
   refine hQ _ ⟨rfl, ?_⟩
   rw [List.take_length, List.append_assoc] at O3
   exact ⟨bv3, O3, X3, b3⟩
theorem Gm {α β : Type} {n m : Nat} (hm : m ≤ s.next) {va vb : Value} {Ra : Nat → DS → Value → α → Prop} {Rb : Nat → DS → Value → β → Prop} {Oka : α → Prop} {Okb : β → Prop} {ea : α → List Int} {eb : β → List Int}
 (hG : s.Good) (ha : Zv E n m s va Ra Oka ea) (hb : Zv E n m s vb Rb Okb eb) (hcode : E.fn 130 = some d130) (hintr : E.intr 130 = none)
 (hput : ∀ {f1 f2 : Nat} {fp fg gp gg : Value} {Df Dg : List (Nat × DObj)}, Ws E n fp Df Ra Oka ea → Ws E n gp Dg Rb Okb eb → Ws E (n + 1) (.func (.func 167) #[] #[.pointer (some ⟨f1, 0, none⟩), .pointer (some ⟨f2, 0, none⟩)]) ((f1, .cells (.list [fp, fg]) false) :: (f2, .cells (.list [gp, gg]) false) :: (Df ++ Dg)) (GY Ra Rb) (fun x => Oka x.1 ∧ Okb x.2) (fun x => ea x.1 ++ eb x.2)) :
 W (dcall E (d + 1) (.func (.func 130) #[] #[]) [va, vb] s) fun r => Zv E (n + 1) m r.2 r.1 (GY Ra Rb) (fun x => Oka x.1 ∧ Okb x.2) (fun x => ea x.1 ++ eb x.2) ∧ Ext [] s r.2 := by
 obtain ⟨f1, a1, b1, g1, p1, q1, D1, rfl, h2, h3, h4⟩ := ha
 obtain ⟨f2, a2, b2, g2, p2, q2, D2, rfl, k2, k3, k4⟩ := hb
 refine Zz fun Q hQ => ?_
 rw [zF hintr hcode rfl]
 simp (maxSteps := 4000000) (maxDischargeDepth := 8) only [zr, zf, zA, zO, zI, zc, zg, zn, zt, ZK, zV, zv, ze, zu, Zi, Z3, ZF, zi, zM, zU, Z8, ZG, Qr, zH, Zh, Yl, Zp, Z4, zm, z9, Zl, zx, zl, zk, zd, zJ, zb, za, z0, zq, List.getElem?_cons_zero, List.getElem?_cons_succ, z1, zo, zz, z4, z5, zC, Cells.get, getN, Nat.zero_add, Nat.reduceAdd, ZA, cells_func, zD, List.length_cons, List.length_nil, allOne, zQ, Bool.and_self, Bool.and_true, Bool.and_eq_true, Nat.beq_eq, Nat.ble_eq, Nat.reduceLeDiff, Nat.le_refl, and_self, if_true, if_false, Bool.not_false, z3, DS.wrC, Cells.size, Cells.fillFrom, Cells.set, Zd, zL, List.take_zero, List.take_succ_cons, List.drop_succ_cons, List.drop_zero, List.nil_append, List.cons_append, List.drop_nil, List.append_nil, pp, pv, pg, DS.upd_get_self, Option.map_some, z7, wrN, Nat.add_zero, DS.read, Cells.take, zw, zE, zK, Yq, zZ, Z0, Nat.add_assoc, Nat.reduceLT, Nat.lt_add_one, Nat.succ_pos, d130, hG]
 have X : ∀ o1 o2 o3 o4, Ext [] s ((((s.new o1).new o2).new o3).upd (s.next + 2) o4) := fun _ _ _ _ => (Ext.new.trans' (Ext.new.trans' Ext.new)).trans (Ext.upd (F := [s.next + 2]) (.inl (by simp))) (by simp)
 refine hQ _ ⟨⟨_, _, _, _, _, _, _, rfl, ?_, ?_, hput (f1 := s.next) (f2 := s.next + 1) (fg := .func (.func g1) p1 q1) (gg := .func (.func g2) p2 q2) h4 k4⟩, X _ _ _ _⟩
 · intro p hp
   rcases List.mem_cons.1 hp with rfl | hp
   · simp (maxSteps := 4000000) (maxDischargeDepth := 8) only [z0, Nat.reduceAdd, DS.upd_get_ne, z7, zw, zE, zK, zZ, Z0, Nat.add_assoc, Nat.lt_add_one, Nat.succ_pos, hG]
   · rcases List.mem_cons.1 hp with rfl | hp
     · simp (maxSteps := 4000000) (maxDischargeDepth := 8) only [z0, Nat.reduceAdd, DS.upd_get_ne, z7, zw, zE, zK, zZ, Nat.add_assoc, Nat.lt_add_one, hG]
     · rcases List.mem_append.1 hp with hp | hp
       · exact (X _ _ _ _).keep (h2 p hp) (by simp)
       · exact (X _ _ _ _).keep (k2 p hp) (by simp)
 · intro p hp
   have hn : ∀ o1 o2 o3 o4, ((((s.new o1).new o2).new o3).upd (s.next + 2) o4).next = s.next + 3 := fun _ _ _ _ => by simp (maxSteps := 4000000) (maxDischargeDepth := 8) only [Nat.reduceAdd, DS.upd_next, z7, Nat.add_assoc]
   rw [hn]
   rcases List.mem_cons.1 hp with rfl | hp
   · show m ≤ s.next ∧ s.next < s.next + 3; omega
   · rcases List.mem_cons.1 hp with rfl | hp
     · show m ≤ s.next + 1 ∧ s.next + 1 < s.next + 3; omega
     · rcases List.mem_append.1 hp with hp | hp
       · have := h3 p hp; omega
       · have := k3 p hp; omega
theorem Gn {α β : Type} {n m : Nat} (hm : m ≤ s.next) {va vb : Value} {Ra : Nat → DS → Value → α → Prop} {Rb : Nat → DS → Value → β → Prop} {Oka : α → Prop} {Okb : β → Prop} {ea : α → List Int} {eb : β → List Int}
 (hG : s.Good) (ha : Zv E n m s va Ra Oka ea) (hb : Zv E n m s vb Rb Okb eb) (hcode : E.fn 127 = some d127) (hintr : E.intr 127 = none)
 (hput : ∀ {f1 f2 : Nat} {fp fg gp gg : Value} {Df Dg : List (Nat × DObj)}, Ws E n fp Df Ra Oka ea → Ws E n gp Dg Rb Okb eb → Ws E (n + 1) (.func (.func 162) #[] #[.pointer (some ⟨f1, 0, none⟩), .pointer (some ⟨f2, 0, none⟩)]) ((f1, .cells (.list [fp, fg]) false) :: (f2, .cells (.list [gp, gg]) false) :: (Df ++ Dg)) (GY Ra Rb) (fun x => Oka x.1 ∧ Okb x.2) (fun x => ea x.1 ++ eb x.2)) :
 W (dcall E (d + 1) (.func (.func 127) #[] #[]) [va, vb] s) fun r => Zv E (n + 1) m r.2 r.1 (GY Ra Rb) (fun x => Oka x.1 ∧ Okb x.2) (fun x => ea x.1 ++ eb x.2) ∧ Ext [] s r.2 := by
 obtain ⟨f1, a1, b1, g1, p1, q1, D1, rfl, h2, h3, h4⟩ := ha
 obtain ⟨f2, a2, b2, g2, p2, q2, D2, rfl, k2, k3, k4⟩ := hb
 refine Zz fun Q hQ => ?_
 rw [zF hintr hcode rfl]
 simp (maxSteps := 4000000) (maxDischargeDepth := 8) only [zr, zf, zA, zO, zI, zc, zg, zn, zt, ZK, zV, zv, ze, zu, Zi, Z3, ZF, zi, zM, zU, Z8, ZG, Qr, zH, Zh, Yl, Zp, Z4, zm, z9, Zl, zx, zl, zk, zd, zJ, zb, za, z0, zq, List.getElem?_cons_zero, List.getElem?_cons_succ, z1, zo, zz, z4, z5, zC, Cells.get, getN, Nat.zero_add, Nat.reduceAdd, ZA, cells_func, zD, List.length_cons, List.length_nil, allOne, zQ, Bool.and_self, Bool.and_true, Bool.and_eq_true, Nat.beq_eq, Nat.ble_eq, Nat.reduceLeDiff, Nat.le_refl, and_self, if_true, if_false, Bool.not_false, z3, DS.wrC, Cells.size, Cells.fillFrom, Cells.set, Zd, zL, List.take_zero, List.take_succ_cons, List.drop_succ_cons, List.drop_zero, List.nil_append, List.cons_append, List.drop_nil, List.append_nil, pp, pv, pg, DS.upd_get_self, Option.map_some, z7, wrN, Nat.add_zero, DS.read, Cells.take, zw, zE, zK, Yq, zZ, Z0, Nat.add_assoc, Nat.reduceLT, Nat.lt_add_one, Nat.succ_pos, d127, hG]
 have X : ∀ o1 o2 o3 o4, Ext [] s ((((s.new o1).new o2).new o3).upd (s.next + 2) o4) := fun _ _ _ _ => (Ext.new.trans' (Ext.new.trans' Ext.new)).trans (Ext.upd (F := [s.next + 2]) (.inl (by simp))) (by simp)
 refine hQ _ ⟨⟨_, _, _, _, _, _, _, rfl, ?_, ?_, hput (f1 := s.next) (f2 := s.next + 1) (fg := .func (.func g1) p1 q1) (gg := .func (.func g2) p2 q2) h4 k4⟩, X _ _ _ _⟩
 · intro p hp
   rcases List.mem_cons.1 hp with rfl | hp
   · simp (maxSteps := 4000000) (maxDischargeDepth := 8) only [z0, Nat.reduceAdd, DS.upd_get_ne, z7, zw, zE, zK, zZ, Z0, Nat.add_assoc, Nat.lt_add_one, Nat.succ_pos, hG]
   · rcases List.mem_cons.1 hp with rfl | hp
     · simp (maxSteps := 4000000) (maxDischargeDepth := 8) only [z0, Nat.reduceAdd, DS.upd_get_ne, z7, zw, zE, zK, zZ, Nat.add_assoc, Nat.lt_add_one, hG]
     · rcases List.mem_append.1 hp with hp | hp
       · exact (X _ _ _ _).keep (h2 p hp) (by simp)
       · exact (X _ _ _ _).keep (k2 p hp) (by simp)
 · intro p hp
   have hn : ∀ o1 o2 o3 o4, ((((s.new o1).new o2).new o3).upd (s.next + 2) o4).next = s.next + 3 := fun _ _ _ _ => by simp (maxSteps := 4000000) (maxDischargeDepth := 8) only [Nat.reduceAdd, DS.upd_next, z7, Nat.add_assoc]
   rw [hn]
   rcases List.mem_cons.1 hp with rfl | hp
   · show m ≤ s.next ∧ s.next < s.next + 3; omega
   · rcases List.mem_cons.1 hp with rfl | hp
     · show m ≤ s.next + 1 ∧ s.next + 1 < s.next + 3; omega
     · rcases List.mem_append.1 hp with hp | hp
       · have := h3 p hp; omega
       · have := k3 p hp; omega
theorem Gk {α : Type} {n m : Nat} (hm : m ≤ s.next) {v : Value} {R : Nat → DS → Value → α → Prop} {Ok : α → Prop} {e : α → List Int}
 (hG : s.Good) (ha : Zv E n m s v R Ok e) (hn : 3 ≤ n) (sR : XM R) (hcode : E.fn 129 = some d129) (hintr : E.intr 129 = none) (hcode1 : E.fn 165 = some d165) (hintr1 : E.intr 165 = none) :
 W (dcall E (d + 2) (.func (.func 129) #[] #[]) [v] s) fun r => Zv E (n + 1) m r.2 r.1 (GZ 2 R) (fun xs => xs.length ≤ 4096 ∧ ∀ x, x ∈ xs → Ok x) (fun xs => leB xs.length 2 ++ Xr e xs) ∧ Ext [] s r.2 := by
 obtain ⟨f1, a1, b1, g1, p1, q1, D1, rfl, h2, h3, h4⟩ := ha
 refine Zz fun Q hQ => ?_
 rw [zF hintr hcode rfl]
 simp (maxSteps := 4000000) (maxDischargeDepth := 8) only [zr, zf, zA, zO, zc, zg, zn, zt, zv, ze, zu, ZF, zi, Z8, zH, Zh, Zp, Z4, zB, zm, Zl, zl, zk, zy, zd, zb, za, z0, zq, List.getElem?_cons_zero, z1, z4, z5, zC, Cells.get, getN, zD, if_false, Bool.not_false, z3, pp, z7, Nat.add_zero, zw, zE, zK, zZ, Nat.lt_add_one, d129, hG]
 obtain ⟨S, hS⟩ : ∃ S : DS, S = (s.new (.cells (.list [.func (.func f1) a1 b1, .func (.func g1) p1 q1]) false)).new (.cells (.list [.nilFunc, .nilFunc]) false) := ⟨_, rfl⟩
 rw [← hS]
 have XS : Ext [] s S := by rw [hS]; exact Ext.new.trans' Ext.new
 have nS : S.next = s.next + 2 := by rw [hS]; simp (maxSteps := 4000000) (maxDischargeDepth := 8) only [Nat.reduceAdd, z7, Nat.add_assoc]
 have hGS := XS.good hG
 have S0 : S.get s.next = some (.cells (.list [.func (.func f1) a1 b1, .func (.func g1) p1 q1]) false) := by rw [hS]; simp (maxSteps := 4000000) (maxDischargeDepth := 8) only [z7, zw, zE, zK, Nat.lt_add_one, hG]
 have S1 : S.get (s.next + 1) = some (.cells (.list [.nilFunc, .nilFunc]) false) := by rw [hS]; simp (maxSteps := 4000000) (maxDischargeDepth := 8) only [z7, zw, zK, hG]
 have wS : S.wr (s.next + 1) = true := XS.wrs (hG _ (by omega)).2
 refine W.mono (Qv hC hGS 2 4096) ?_
 rintro ⟨v2, s2⟩ ⟨hv2, n1, n2, X2, hn2⟩
 simp only at hv2 n1 n2 X2 hn2
 subst hv2
 have hG2 := X2.good hGS
 have T1 := X2.keep S1 (by simp)
 have wT := X2.wrs wS
 have hlt : s.next + 1 < s2.next := by omega
 rw [nS] at n1 n2 hn2 ⊢
 simp (maxSteps := 4000000) (maxDischargeDepth := 8) only [zr, zf, zI, zc, zg, zn, zt, ze, Zi, Z3, zi, ZG, Qr, Yl, Zp, z9, zx, zl, zd, zJ, zb, za, z0, z1, zo, zz, z4, z5, Cells.get, getN, Nat.zero_add, Nat.reduceAdd, ZA, cells_func, zD, List.length_cons, List.length_nil, allOne, zQ, Bool.and_self, Bool.and_true, Bool.and_eq_true, Nat.beq_eq, Nat.ble_eq, Nat.reduceLeDiff, Nat.le_refl, and_self, if_true, DS.wrC, Cells.size, Cells.fillFrom, Cells.set, Zd, zL, List.take_zero, List.take_succ_cons, List.drop_succ_cons, List.drop_zero, List.nil_append, List.cons_append, List.drop_nil, List.append_nil, DS.upd_get_self, DS.upd_get_ne, DS.upd_wr, Option.map_some, wrN, DS.read, Cells.take, zw, zE, zK, DS.upd_good, Yq, zZ, Xw, Nat.add_assoc, Nat.reduceLT, Nat.lt_add_one, hG2, T1, wT, hlt]
 refine hQ _ ⟨⟨_, _, _, _, _, _, (s2.next, .cells (.list [.func (.func 210) #[] #[.pointer (some ⟨s.next + 2, 0, none⟩), .pointer (some ⟨s.next + 3, 0, none⟩)], .func (.func 212) #[] #[.pointer (some ⟨s.next + 2, 0, none⟩), .pointer (some ⟨s.next + 3, 0, none⟩)]]) false) :: (s.next, .cells (.list [.func (.func f1) a1 b1, .func (.func g1) p1 q1]) false) :: ([(s.next + 2, .cells (.list [.int .i64 ((2 : Nat) : Int)]) false), (s.next + 3, .cells (.list [.int .i64 4096]) false)] ++ D1), rfl, ?_, ?_, FN hC ((JR hC (b1 := s.next + 2) (b2 := s.next + 3) (size := 2) (most := 4096) (by omega)).mono hn) h4 sR hcode1 hintr1⟩, ?_⟩
 · intro p hp
   rcases List.mem_cons.1 hp with rfl | hp
   · simp (maxSteps := 4000000) (maxDischargeDepth := 8) only [z0, DS.upd_get_self, DS.upd_get_ne, Option.map_some, zw, hG2, show ¬ s2.next = s.next + 1 by omega]
   · rcases List.mem_cons.1 hp with rfl | hp
     · simp (maxSteps := 4000000) (maxDischargeDepth := 8) only [z0, DS.upd_get_ne, zE, zZ, Nat.lt_add_one, hG2, show ¬ s.next = s2.next by omega, show s.next < s2.next by omega, X2.keep S0 (by simp)]
     · rcases List.mem_append.1 hp with hp | hp
       · rcases List.mem_cons.1 hp with rfl | hp
         · simp (maxSteps := 4000000) (maxDischargeDepth := 8) only [z0, DS.upd_get_ne, zE, Xw, Nat.lt_add_one, hG2, show ¬ s.next + 2 = s2.next by omega, show s.next + 2 < s2.next by omega, n1]
           rfl
         · rcases List.mem_cons.1 hp with rfl | hp
           · simp (maxSteps := 4000000) (maxDischargeDepth := 8) only [z0, DS.upd_get_ne, zE, Xw, Nat.reduceLT, Nat.add_lt_add_iff_left, hG2, show ¬ s.next + 3 = s2.next by omega, show s.next + 3 < s2.next by omega, n2]
           · cases hp
       · have h5 := h3 p hp
         have h6 := X2.keep (XS.keep (h2 p hp) (by simp)) (by simp)
         simp (maxSteps := 4000000) (maxDischargeDepth := 8) only [z0, DS.upd_get_ne, zE, hG2, show ¬ p.1 = s2.next by omega, show ¬ p.1 = s.next + 1 by omega, show p.1 < s2.next by omega, h6]
 · intro p hp
   have hfin : m ≤ p.1 ∧ p.1 < s2.next + 1 := by
    rcases List.mem_cons.1 hp with rfl | hp
    · show m ≤ s2.next ∧ s2.next < s2.next + 1; omega
    · rcases List.mem_cons.1 hp with rfl | hp
      · show m ≤ s.next ∧ s.next < s2.next + 1; omega
      · rcases List.mem_append.1 hp with hp | hp
        · rcases List.mem_cons.1 hp with rfl | hp
          · show m ≤ s.next + 2 ∧ s.next + 2 < s2.next + 1; omega
          · rcases List.mem_cons.1 hp with rfl | hp
            · show m ≤ s.next + 3 ∧ s.next + 3 < s2.next + 1; omega
            · cases hp
        · have h5 := h3 p hp; omega
   simp (maxSteps := 4000000) (maxDischargeDepth := 8) only [DS.upd_next, z7]
   exact hfin
 · have X3 := XS.trans' X2
   have X4 : Ext [s2.next, s.next + 1] s2 (((s2.new (.cells (.list [.nilFunc, .nilFunc]) false)).upd s2.next (.cells (.list [.func (.func 210) #[] #[.pointer (some ⟨s.next + 2, 0, none⟩), .pointer (some ⟨s.next + 3, 0, none⟩)], .func (.func 212) #[] #[.pointer (some ⟨s.next + 2, 0, none⟩), .pointer (some ⟨s.next + 3, 0, none⟩)]]) false)).upd (s.next + 1) (.cells (.list [.func (.func 165) #[] #[.pointer (some ⟨s2.next, 0, none⟩), .pointer (some ⟨s.next, 0, none⟩)], .func (.func 166) #[] #[.pointer (some ⟨s2.next, 0, none⟩), .pointer (some ⟨s.next, 0, none⟩)]]) false)) := Ext.new.trans' ((Ext.upd (.inl (by simp))).trans' (Ext.upd (.inl (by simp))))
   exact X3.trans X4 (by simp; omega)
theorem G4 (hG : s.Good) {m : Nat} (hm : m ≤ s.next) (hcode : E.fn 128 = some d128) (hintr : E.intr 128 = none) :
 W (dcall E (d + 2) (.func (.func 128) #[] #[]) [] s) fun r => Zv E 3 m r.2 r.1 Vw (Jt 2 65535) (fun x => leB x 2) ∧ Ext [] s r.2 := by
 refine Zz fun Q hQ => ?_
 rw [zF hintr hcode rfl]
 simp (maxSteps := 4000000) (maxDischargeDepth := 8) only [zr, zf, zc, zg, zn, zt, ze, Zp, zB, zk, zy, zd, z4, z5, pp, d128, hG]
 refine W.mono (Qv hC (DS.new_good hG) _ _) ?_
 rintro ⟨v2, s2⟩ ⟨hv2, n1, n2, X2, hn2⟩
 simp only [DS.new_next] at hv2 n1 n2 X2 hn2
 subst hv2
 have T0 := X2.keep (DS.new_get_self (o := .cells (.list [.nilFunc, .nilFunc]) false) hG) (by simp)
 have wT := X2.wrs (show (s.new (.cells (.list [.nilFunc, .nilFunc]) false)).wr s.next = true from (hG _ (Nat.le_refl _)).2)
 simp (maxSteps := 4000000) (maxDischargeDepth := 8) only [zI, zc, zg, zn, zt, ze, Zi, zi, Yl, z9, zx, zl, zd, zJ, zb, za, z0, z1, zo, zz, Cells.get, getN, Nat.zero_add, Nat.reduceAdd, ZA, zD, List.length_cons, List.length_nil, allOne, zQ, Bool.and_self, Bool.and_true, Nat.beq_eq, Nat.ble_eq, Nat.le_refl, if_true, DS.wrC, Cells.size, Cells.fillFrom, Cells.set, Zd, DS.upd_get_self, Option.map_some, DS.read, Cells.take, zZ, Nat.add_assoc, Nat.lt_add_one, T0, wT]
 have X3 : ∀ o, Ext [] s (s2.upd s.next o) := fun o => (Ext.new.trans' X2).trans (Ext.upd (F := [s.next]) (.inl (by simp))) (by simp)
 refine hQ _ ⟨⟨_, _, _, _, _, _, [(s.next + 1, .cells (.list [.int .i64 ((2 : Nat) : Int)]) false), (s.next + 2, .cells (.list [.int .i64 65535]) false)], rfl, ?_, ?_, JR hC (by omega)⟩, X3 _⟩
 · intro p hp
   rcases List.mem_cons.1 hp with rfl | hp
   · simp (maxSteps := 4000000) (maxDischargeDepth := 8) only [z0, DS.upd_get_ne, n1, show ¬ s.next + 1 = s.next by omega]
     rfl
   · rcases List.mem_cons.1 hp with rfl | hp
     · simp (maxSteps := 4000000) (maxDischargeDepth := 8) only [z0, DS.upd_get_ne, n2, show ¬ s.next + 2 = s.next by omega]
     · cases hp
 · intro p hp
   have : m ≤ p.1 ∧ p.1 < s2.next := by
    rcases List.mem_cons.1 hp with rfl | hp
    · show m ≤ s.next + 1 ∧ s.next + 1 < s2.next; omega
    · rcases List.mem_cons.1 hp with rfl | hp
      · show m ≤ s.next + 2 ∧ s.next + 2 < s2.next; omega
      · cases hp
   simp (maxSteps := 4000000) (maxDischargeDepth := 8) only [DS.upd_next]
   exact this
theorem JS (hG : s.Good) {m : Nat} (hm : m ≤ s.next) (hcode : E.fn 131 = some d131) (hintr : E.intr 131 = none) :
 W (dcall E (d + 2) (.func (.func 131) #[] #[]) [] s) fun r => Zv E 3 m r.2 r.1 Vw (Jt 8 0) (fun x => leB x 8) ∧ Ext [] s r.2 := by
 refine Zz fun Q hQ => ?_
 rw [zF hintr hcode rfl]
 simp (maxSteps := 4000000) (maxDischargeDepth := 8) only [zr, zf, zc, zg, zn, zt, ze, Zp, zB, zk, zy, zd, z4, z5, pp, d131, hG]
 refine W.mono (Qv hC (DS.new_good hG) _ _) ?_
 rintro ⟨v2, s2⟩ ⟨hv2, n1, n2, X2, hn2⟩
 simp only [DS.new_next] at hv2 n1 n2 X2 hn2
 subst hv2
 have T0 := X2.keep (DS.new_get_self (o := .cells (.list [.nilFunc, .nilFunc]) false) hG) (by simp)
 have wT := X2.wrs (show (s.new (.cells (.list [.nilFunc, .nilFunc]) false)).wr s.next = true from (hG _ (Nat.le_refl _)).2)
 simp (maxSteps := 4000000) (maxDischargeDepth := 8) only [zI, zc, zg, zn, zt, ze, Zi, zi, Yl, z9, zx, zl, zd, zJ, zb, za, z0, z1, zo, zz, Cells.get, getN, Nat.zero_add, Nat.reduceAdd, ZA, zD, List.length_cons, List.length_nil, allOne, zQ, Bool.and_self, Bool.and_true, Nat.beq_eq, Nat.ble_eq, Nat.le_refl, if_true, DS.wrC, Cells.size, Cells.fillFrom, Cells.set, Zd, DS.upd_get_self, Option.map_some, DS.read, Cells.take, zZ, Nat.add_assoc, Nat.lt_add_one, T0, wT]
 have X3 : ∀ o, Ext [] s (s2.upd s.next o) := fun o => (Ext.new.trans' X2).trans (Ext.upd (F := [s.next]) (.inl (by simp))) (by simp)
 refine hQ _ ⟨⟨_, _, _, _, _, _, [(s.next + 1, .cells (.list [.int .i64 ((8 : Nat) : Int)]) false), (s.next + 2, .cells (.list [.int .i64 0]) false)], rfl, ?_, ?_, JR hC (by omega)⟩, X3 _⟩
 · intro p hp
   rcases List.mem_cons.1 hp with rfl | hp
   · simp (maxSteps := 4000000) (maxDischargeDepth := 8) only [z0, DS.upd_get_ne, n1, show ¬ s.next + 1 = s.next by omega]
     rfl
   · rcases List.mem_cons.1 hp with rfl | hp
     · simp (maxSteps := 4000000) (maxDischargeDepth := 8) only [z0, DS.upd_get_ne, n2, show ¬ s.next + 2 = s.next by omega]
     · cases hp
 · intro p hp
   have : m ≤ p.1 ∧ p.1 < s2.next := by
    rcases List.mem_cons.1 hp with rfl | hp
    · show m ≤ s.next + 1 ∧ s.next + 1 < s2.next; omega
    · rcases List.mem_cons.1 hp with rfl | hp
      · show m ≤ s.next + 2 ∧ s.next + 2 < s2.next; omega
      · cases hp
   simp (maxSteps := 4000000) (maxDischargeDepth := 8) only [DS.upd_next]
   exact this
theorem Fc {v : Value} {l : List Int} (h : SlC s 1 v (Zy l)) (hcode : E.fn 126 = some d126) (hintr : E.intr 126 = none) :
 ∃ w, dcall E (d + 1) (.func (.func 126) #[] #[]) [v] s = some (w, s) ∧ SlV s 1 w (Zy l) ∧ (∃ a, w = .slice a l.length l.length ∧ ∀ x, a = some x → x.spot = none) ∧ blk w = blk v := by
 obtain ⟨a, c, hv, hc⟩ := h.shape'
 have hvw := h.view (Wx l)
 rw [Ze] at hv hc
 have e1 : Nat.ble l.length c = true := Nat.ble_eq.mpr hc
 have e2 : Nat.ble l.length l.length = true := Nat.ble_eq.mpr (Nat.le_refl _)
 have key : ∀ w, slV 1 v none (some (.int .i64 (l.length : Int))) (some (.int .i64 (l.length : Int))) = some w → dcall E (d + 1) (.func (.func 126) #[] #[]) [v] s = some (w, s) := by
  intro w hw
  rw [← XH, zF hintr hcode rfl]
  subst hv
  simp (maxSteps := 4000000) only [zr, zf, zI, zc, zg, zn, zt, ze, zu, zi, zM, Yf, zm, zx, zl, zk, zd, zb, za, Nat.reduceEqDiff, z0, zq, List.getElem?_cons_zero, z1, zo, zz, reduceCtorEq, pp, pv, Option.map_some, CO, Option.map_none, d126, hw]
 rcases hvw with ⟨h1, h2⟩ | ⟨b, off, sp, c', h1, h2⟩
 · have hl : l = [] := by simpa [Zy] using h2
   subst hl
   rw [h1] at hv
   cases hv
   exact ⟨.slice none 0 0, key _ (by subst h1; rfl), .inl ⟨rfl, rfl⟩, ⟨none, rfl, fun _ h => (nomatch h)⟩, by rw [h1]⟩
 · rw [Ze] at h1
   have hw : slV 1 v none (some (.int .i64 (l.length : Int))) (some (.int .i64 (l.length : Int))) = some (.slice (some ⟨b, off, none⟩) l.length l.length) := by
    rw [hv] at h1
    cases h1
    rw [hv]
    unfold slV ZQ
    simp only [zW, e1, e2, if_true, Option.isSome_some, Ye, Nat.zero_mul, Nat.add_zero, Nat.sub_zero]
   exact ⟨_, key _ hw, .inr ⟨b, off, none, l.length, by rw [Ze], h2⟩, ⟨_, rfl, fun _ h => by cases h; rfl⟩, by rw [h1]; rfl⟩
theorem F6 {α : Type} {n m : Nat} {fv xv : Value} {Rep : Nat → DS → Value → α → Prop} {Ok : α → Prop} {enc : α → List Int} {x : α} {x1 : Int} {x2 : Option Addr} {x3 x4 : Nat} (hG : s.Good) (hf : Zv E n m s fv Rep Ok enc) (hr : Rep s.next s xv x) (hst : XM Rep) (hok : Ok x) (hlen : (enc x).length ≤ 1048576)
 (hxv : xv = .agg ⟨[.int .i64 x1, .slice x2 x3 x4]⟩) (hcode : E.fn 94 = some d94) (hintr : E.intr 94 = none) (hclip : E.fn 126 = some d126) (iclip : E.intr 126 = none) :
 W (dcall E ((d + n + 1) + 1) (.func (.func 94) #[] #[]) [fv, xv] s) fun r => ∃ w, r.1 = .tuple ⟨[w, .int .i64 0]⟩ ∧ SlV r.2 1 w (Zy (enc x)) ∧ (∃ a, w = .slice a (enc x).length (enc x).length ∧ ∀ z, a = some z → z.spot = none) ∧ (∀ k, k ∈ blk w → s.next ≤ k ∧ k < r.2.next) ∧ Ext [] s r.2 := by
 obtain ⟨f, a, b, g, a', b', D, rfl, h2, h3, h4⟩ := hf
 subst hxv
 refine Zz fun Q hQ => ?_
 rw [zF hintr hcode rfl]
 simp (maxSteps := 4000000) (maxDischargeDepth := 8) only [zr, zf, zA, zO, zc, zg, zn, zt, zv, ze, zu, Z3, ZF, zi, zM, Z8, ZG, zH, Zh, Z4, zB, zm, Zl, zl, zk, zd, zb, za, z0, zq, List.getElem?_cons_zero, List.getElem?_cons_succ, z1, z4, z5, zC, Cells.get, getN, Nat.reduceAdd, zD, if_false, Bool.not_false, z3, zL, pp, pv, z7, Q3, ldA, Nat.add_zero, DS.read, Cells.take, zw, zE, zK, zZ, Z0, Nat.add_assoc, Nat.reduceLT, Nat.lt_add_one, Nat.succ_pos, d94, hG]
 obtain ⟨S, hS⟩ : ∃ S : DS, S = ((s.new (.cells (.list [.func (.func f) a b, .func (.func g) a' b']) false)).new (.cells (.list [.int .i64 x1, .slice x2 x3 x4]) false)).new (.cells (.list [.slice none 0 0, .int .i64 0]) false) := ⟨_, rfl⟩
 rw [← hS]
 have XS : Ext [] s S := by rw [hS]; exact Ext.new.trans' (Ext.new.trans' Ext.new)
 have nS : S.next = s.next + 3 := by rw [hS]; simp (maxSteps := 4000000) (maxDischargeDepth := 8) only [Nat.reduceAdd, z7, Nat.add_assoc]
 have hGS := XS.good hG
 have S0 : S.get s.next = some (.cells (.list [.func (.func f) a b, .func (.func g) a' b']) false) := by rw [hS]; simp (maxSteps := 4000000) (maxDischargeDepth := 8) only [Nat.reduceAdd, z7, zw, zE, zK, Z0, Nat.add_assoc, Nat.lt_add_one, Nat.succ_pos, hG]
 have S1 : S.get (s.next + 1) = some (.cells (.list [.int .i64 x1, .slice x2 x3 x4]) false) := by rw [hS]; simp (maxSteps := 4000000) (maxDischargeDepth := 8) only [Nat.reduceAdd, z7, zw, zE, zK, Nat.add_assoc, Nat.lt_add_one, hG]
 have S2 : S.get (s.next + 2) = some (.cells (.list [.slice none 0 0, .int .i64 0]) false) := by rw [hS]; simp (maxSteps := 4000000) (maxDischargeDepth := 8) only [Nat.reduceAdd, z7, zw, zK, Nat.add_assoc, hG]
 have O : Qs S (s.next + 2) (.slice none 0 0) [] := ⟨S2, XS.wrs (hG _ (by omega)).2, by simpa [Zy] using SlC.nil, by simp [blk], by simp⟩
 have hY : Same (s.next) s S := fun k hk => XS.get k hk (by simp)
 have hld : ldA 2 (.pointer (some ⟨s.next + 1, 0, none⟩)) S = some (.agg ⟨[.int .i64 x1, .slice x2 x3 x4]⟩) := by
  unfold ldA DS.read
  simp only [S1]
  rfl
 rw [show d + (n + 1) = (d + 1) + n by omega]
 refine W.mono (h4 (d + 1) S (s.next + 2) _ [] _ x (h2.keep XS (by simp)) (fun p hp => by have := h3 p hp; omega) O hGS (hst.mono _ _ _ _ _ (hst.stab _ _ _ _ _ hr hY) (by omega)) hok (by simpa using hlen)) ?_
 rintro ⟨v3, s3⟩ ⟨hv3, bv3, O3, X3, b3⟩
 simp only at hv3 O3 X3 b3
 subst hv3
 rw [List.nil_append] at O3
 have go3 := O3.go
 obtain ⟨w, hw1, hw2, hw3, hw4⟩ := Fc hC (d := d + n) O3.sl hclip iclip
 rw [show (d + n) + 1 = (d + 1) + n by omega] at hw1
 simp (maxSteps := 4000000) only [zr, zf, zA, zO, zI, zc, zg, zn, zt, zv, ze, zu, zi, zM, zT, Za, zH, Zh, zB, zm, zY, zP, zx, zl, zk, zy, zd, zb, za, Nat.reduceEqDiff, z0, z1, zo, zz, z4, z5, zC, Cells.get, getN, Nat.zero_add, if_true, Bool.not_true, Nat.add_zero, decide_true, go3, hw1]
 have X4 : Ext [] s s3 := XS.trans X3 (by simp [blk])
 refine hQ _ ⟨w, rfl, hw2, hw3, fun k hk => ?_, X4⟩
 rw [hw4] at hk
 refine ⟨?_, O3.sl.lt k hk⟩
 have := O3.up k hk
 omega
end
end Go.Dx.RpA
