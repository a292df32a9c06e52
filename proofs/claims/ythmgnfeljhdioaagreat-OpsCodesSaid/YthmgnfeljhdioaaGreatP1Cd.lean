/- A part. -/
import Derived.Test.YthmgnfeljhdioaaGreatDxGz
import Derived.Test.YthmgnfeljhdioaaGreatDxOut
set_option linter.unusedVariables false
set_option linter.unusedSimpArgs false
set_option linter.unusedSectionVars false
set_option maxRecDepth 100000
set_option maxHeartbeats 4000000
namespace Go.Dx.TbA
open Go Go.Dx Go.Proofs.YthmgnfeljhdioaaGreat
structure Ja (E : Env) : Prop where
 fcput : E.fn 88 = some d88
 icput : E.intr 88 = none
 fclow : E.fn 121 = some d121
 iclow : E.intr 121 = none
 fnum : E.fn 84 = some d84
 inum : E.intr 84 = none
 fnum1 : E.fn 120 = some d120
 inum1 : E.intr 120 = none
 lf : 10000 ≤ E.lf
structure LS (s0 : DS) (N o : Nat) (x : Int) (size : Nat) (n : Nat) (y : St) : Prop where
 ex : ∃ j : Nat, n = size - j ∧ j ≤ size ∧ y.defers = [] ∧ (y.t.get 0 = some (.pointer (some ⟨o, 0, none⟩)) ∧ y.t.get 2 = some (.int .i64 x) ∧ y.t.get 3 = some (.int .i64 (size : Int)) ∧ y.t.get 8 = some (.pointer (some ⟨N, 0, none⟩)) ∧ y.t.get 22 = some (.int .i64 (size : Int)) ∧ y.t.get 23 = some (.int .i64 (j : Int))) ∧
  Ext [N] s0 y.s ∧ ∃ rest, y.s.get N = some (.cells (.list ((leB x j).map (fun n => .int .u8 n) ++ rest)) false) ∧ ((leB x j).map (fun n => Value.int .u8 n) ++ rest).length = 8
section
variable {E : Env} (hC : Ja E) {s : DS} {o : Nat} {bv : Value} {bs cs : List Int} {d : Nat}
include hC
theorem Td (h : Xu s o bv bs) (hG : s.Good) {y : Value} (hy : SlV s 1 y (zI cs)) (hlen : bs.length + cs.length ≤ 1048576) :
 W (dcall E (d + 1) (.func (.func 88) #[] #[]) [.pointer (some ⟨o, 0, none⟩), y] s) (W2 s o bv (bs ++ cs)) := by
 have go := h.go
 have wo := h.wo
 have hol := DS.get_lt' go
 obtain ⟨ab, cb, hbv⟩ := h.sl.shape
 rw [zr] at hbv
 have hyl : ∃ a c, y = .slice a cs.length c := by
  rcases hy with ⟨rfl, h0⟩ | ⟨b, off, sp, c, rfl, _⟩
  · have : cs = [] := by simpa [zI] using h0
    subst this
    exact ⟨none, 0, rfl⟩
  · exact ⟨_, c, by rw [zr]⟩
 obtain ⟨ya, yc, rfl⟩ := hyl
 have w1 : zt .i64 (1048576 - (bs.length : Int)) = 1048576 - (bs.length : Int) := zW (by omega) (by omega)
 have e1 : ¬ 1048576 - (bs.length : Int) < (cs.length : Int) := by omega
 refine zp fun Q hQ => ?_
 rw [zj hC.icput hC.fcput rfl]
 have hsl := h.sl
 subst hbv
 simp only [sA, zb, zo, zm, Nat.reduceEqDiff, Cells.get, getN, reduceCtorEq, pp, pv, d88, go, w1, e1]
 refine W.mono (To hsl hy (ZQ _) (ZQ _) hG ?_ ?_) ?_
 · rw [zr, zr]; omega
 · rw [zr, zr]; omega
 rintro ⟨v1, s1⟩ ⟨h1, X1, b1, _⟩
 simp only at h1 X1 b1
 have ho : o ∉ blk (.slice ab bs.length cb) := fun hk => by have := h.up o hk; omega
 have go1 := X1.keep go ho
 have wo1 := X1.wrs wo
 obtain ⟨a1, c1, hv1⟩ := h1.shape
 have hl1 : (zI bs ++ zI cs).length = (bs ++ cs).length := by rw [List.length_append, zr, zr, List.length_append]
 rw [hl1] at hv1
 subst hv1
 simp only [sA, zb, Nat.reduceEqDiff, za, ze, Nat.reduceAdd, zh, zg, Nat.reduceLeDiff, DS.wrC, Cells.size, Cells.fillFrom, Cells.set, zA, go1, wo1]
 have hup : ∀ k, k ∈ blk (.slice a1 (bs ++ cs).length c1) → o < k := fun k hk => by
  rcases b1 k hk with h2 | h2
  · exact h.up k h2
  · omega
 have X2 : ∀ ob, Ext [o] s1 (s1.upd o ob) := fun ob => Ext.upd (.inl (by simp))
 refine hQ _ ⟨rfl, .slice a1 (bs ++ cs).length c1, ⟨?_, ?_, ?_, hup, ?_⟩, ?_, b1⟩
 · simp only [sA, go1]
 · simp only [DS.upd_wr, wo1]
 · rw [QC]
   exact h1.keep (X2 _) fun k hk => by have := hup k hk; simp; omega
 · rw [List.length_append]; exact hlen
 · exact (X1.weaken (by intro k hk; exact .inl (List.mem_cons_of_mem _ hk))).trans' ((X2 _).weaken (by simp))
theorem Tg (h : Xu s o bv bs) (hG : s.Good) (x : Int) {size : Nat} (hs : size ≤ 8) (hlen : bs.length + size ≤ 1048576) :
 W (dcall E (d + 2) (.func (.func 121) #[] #[]) [.pointer (some ⟨o, 0, none⟩), .bool true, .int .i64 x, .int .i64 (size : Int)] s) (W2 s o bv (bs ++ leB x size)) := by
 have go := h.go
 have wo := h.wo
 have hol := DS.get_lt' go
 have hlf := hC.lf
 refine zp fun Q hQ => ?_
 rw [zj hC.iclow hC.fclow rfl]
 simp (maxDischargeDepth := 8) only [sA, sM, zb, zo, zm, Cells.get, getN, pp, pv, pw, pg, Nat.reduceLT, d121, go]
 obtain ⟨S, hS⟩ : ∃ S : DS, S = s.new (.cells (.list [.int .u8 0, .int .u8 0, .int .u8 0, .int .u8 0, .int .u8 0, .int .u8 0, .int .u8 0, .int .u8 0]) false) := ⟨_, rfl⟩
 rw [← hS]
 have XS : Ext [] s S := by rw [hS]; exact Ext.new
 have hGS := XS.good hG
 have gS : S.get s.next = some (.cells (.list [.int .u8 0, .int .u8 0, .int .u8 0, .int .u8 0, .int .u8 0, .int .u8 0, .int .u8 0, .int .u8 0]) false) := by rw [hS]; exact DS.new_get_self hG
 have wS : S.wr s.next = true := XS.wrs (hG _ (Nat.le_refl _)).2
 refine Wy (LS S s.next o x size) size (by omega) ⟨0, rfl, Nat.zero_le _, rfl, ?_, .refl, _, by simpa [leB] using gS, by simp [leB]⟩ ?_
 · simp only [sA, Nat.reduceEqDiff, reduceCtorEq]
   rfl
 rintro n ⟨t, s2, ds⟩ hn ⟨j, rfl, hj, hds, ⟨g0, g2, g3, g8, g22, g23⟩, X2, rest, gN, hl8⟩
 simp only at hds g0 g2 g3 g8 g22 g23 X2 gN
 subst hds
 have wN := X2.wrs wS
 by_cases c1 : j < size
 · have e1 : (j : Int) < (size : Int) := by omega
   have w1 : zt .i64 ((j : Int) + 1) = ((j + 1 : Nat) : Int) := by rw [zW (by omega) (by omega)]; omega
   have w2 : zt .i64 (8 * (j : Int)) = ((8 * j : Nat) : Int) := by rw [zW (by omega) (by omega)]; omega
   have hsh : Zr .shr .u64 (zt .u64 x) ((8 * j : Nat) : Int) = some (.int .u64 ((zt .u64 x).fdiv (Int.ofNat (2 ^ (8 * j))))) := by
    unfold Zr
    rw [if_neg (by omega)]
    have e2 : Nat.ble (bitsOf .u64) ((8 * j : Nat) : Int).toNat = false := by rw [Zk]; simp [bitsOf]; omega
    simp only [e2, z3, if_false]
    rfl
   have e8 : j < 8 := by omega
   have hlj : (leB x j).length = j := zB x j
   have hsize : j + 1 ≤ (leB x j).length + rest.length := by
    rw [List.length_append, List.length_map] at hl8; omega
   simp only [sA, zb, zo, zm, Nat.reduceEqDiff, zh, zg, DS.wrC, Cells.size, Cells.fillFrom, Cells.set, g0, g2, g3, g8, g22, g23, e1, w1, w2, hsh, e8, gN, wN, List.length_map, hsize]
   have hset : ∃ r2, zA ((leB x j).map (fun n => Value.int .u8 n) ++ rest) j (.int .u8 (leI x j)) = (leB x (j + 1)).map (fun n => .int .u8 n) ++ r2 ∧ ((leB x (j + 1)).map (fun n => Value.int .u8 n) ++ r2).length = 8 := by
    refine ⟨rest.drop 1, ?_, ?_⟩
    · rw [QM, List.set_append_right _ _ (by rw [List.length_map, hlj]; exact Nat.le_refl _), QR, List.map_append, List.append_assoc]
      congr 1
      rw [List.length_map, hlj, Nat.sub_self]
      cases rest with
      | nil => simp at hsize; omega
      | cons a r => simp
    · rw [QR]
      simp only [List.length_append, List.length_map, List.length_cons, List.length_nil, List.length_drop] at hl8 ⊢
      omega
   obtain ⟨r2, hr2, hl2⟩ := hset
   rw [show zt .u8 ((zt .u64 x).fdiv (Int.ofNat (2 ^ (8 * j)))) = leI x j from rfl, hr2]
   refine ⟨size - (j + 1), by omega, ⟨j + 1, rfl, by omega, rfl, by simp only [sA, Nat.reduceEqDiff, reduceCtorEq, g0, g2, g3, g8, g22, g23], X2.trans' (Ext.upd (.inl (by simp))), r2, ?_, hl2⟩⟩
   simp only [sA, gN]
 · obtain rfl : j = size := by omega
   have e1 : ¬ (j : Int) < (j : Int) := by omega
   have hbd : ZS 8 8 none (some (.int .i64 (j : Int))) none = some (0, j, 8) := by
    unfold ZS
    simp only [Z8, Nat.ble_eq.mpr hs, if_true]
   simp only [sA, zb, zo, zm, Nat.reduceEqDiff, reduceCtorEq, g0, g2, g3, g8, g22, g23, e1, hbd, Yd]
   have h2 : Xu s2 o bv bs := by
    have X := XS.trans X2 (by simp)
    exact ⟨X.keep h.go (by simp), X.wrs h.wo, h.sl.keep X (by simp), h.up, h.len⟩
   have hv : SlV s2 1 (.slice (some ⟨s.next, 0, none⟩) j 8) (zI (leB x j)) := by
    refine .inr ⟨s.next, 0, none, 8, by rw [zr, zB], ?_⟩
    have hfl : (zI (leB x j)).flatten = (leB x j).map fun n => .int .u8 n := by
     have : ∀ l : List Int, (zI l).flatten = l.map fun n => .int .u8 n := fun l => by
      induction l with
      | nil => rfl
      | cons a l ih => unfold zI at ih ⊢; simp [ih]
     exact this _
    unfold DS.read
    rw [gN]
    simp only
    rw [zr, zB, Nat.mul_one, Y9 _ _ _ (by omega), hfl]
    simp only [List.drop_zero]
    rw [List.take_append_of_le_length (by rw [List.length_map, zB]; exact Nat.le_refl _), List.take_of_length_le (by rw [List.length_map, zB]; exact Nat.le_refl _)]
   refine W.mono (Td hC h2 (X2.good hGS) hv (by rw [zB]; exact hlen)) ?_
   rintro ⟨v3, s3⟩ h3
   have hv3 := h3.val
   simp only at hv3
   subst hv3
   simp only [sA, za, ze]
   refine hQ _ ⟨rfl, ?_⟩
   have X := XS.trans X2 (F := []) (by simp)
   exact (W2.next (X.weaken (by simp)) (fun k hk => .inl hk) h3).ex
def Jg (_ : Nat) (_ : DS) (v : Value) (x : Int) : Prop := v = .int .i64 x
omit hC in
theorem Yj : Zu Jg := ⟨fun _ _ _ _ _ h _ => h, fun _ _ _ _ _ h _ => h⟩
def Xk (size : Nat) (most : Int) (x : Int) : Prop := size = 8 ∨ (0 ≤ x ∧ x ≤ most)
theorem QO {b1 b2 size : Nat} {most : Int} (hs : size ≤ 8) :
 Zg E 3 (.func (.func 120) #[] #[.pointer (some ⟨b1, 0, none⟩), .pointer (some ⟨b2, 0, none⟩)]) [(b1, .cells (.list [.int .i64 (size : Int)]) false), (b2, .cells (.list [.int .i64 most]) false)] Jg (Xk size most) (fun x => leB x size) := by
 intro d s o bv bs v x hD hb h hG hv hx hlen
 have hv : v = .int .i64 x := hv
 subst hv
 have g1 := hD _ (List.mem_cons_self ..)
 have g2 := hD (b2, _) (List.mem_cons_of_mem _ (List.mem_cons_self ..))
 simp only at g1 g2
 rw [zB] at hlen
 refine zp fun Q hQ => ?_
 rw [zZ hC.inum1 hC.fnum1 rfl]
 by_cases c1 : size = 8
 · subst c1
   have h8 : ((8 : Nat) : Int) = 8 := rfl
   rw [h8] at g1
   have hcl := Tg (d := d) hC h hG x (size := 8) (Nat.le_refl _) hlen
   rw [h8] at hcl
   simp only [sA, zb, zo, zm, Nat.reduceEqDiff, Cells.get, getN, pp, pv, pw, pg, d120, g1, g2]
   refine W.mono hcl ?_
   rintro ⟨v3, s3⟩ h3
   simp only [sA, za, ze]
   exact hQ _ ⟨rfl, h3.ex⟩
 · have e1 : ¬ (size : Int) = 8 := by omega
   have hx : 0 ≤ x ∧ x ≤ most := by
    rcases hx with h | h
    · exact absurd h c1
    · exact h
   obtain ⟨e2, e3⟩ := hx
   simp only [sA, zb, zo, zm, Nat.reduceEqDiff, Cells.get, getN, pp, pv, pw, pg, d120, g1, g2, e1, e2, e3]
   refine W.mono (Tg hC h hG x hs hlen) ?_
   rintro ⟨v3, s3⟩ h3
   simp only [sA, za, ze]
   exact hQ _ ⟨rfl, h3.ex⟩
theorem XL (hG : s.Good) (size most : Int) :
 W (dcall E (d + 1) (.func (.func 84) #[] #[]) [.int .i64 size, .int .i64 most] s) fun r => r.1 = .agg ⟨[.func (.func 120) #[] #[.pointer (some ⟨s.next, 0, none⟩), .pointer (some ⟨s.next + 1, 0, none⟩)], .func (.func 122) #[] #[.pointer (some ⟨s.next, 0, none⟩), .pointer (some ⟨s.next + 1, 0, none⟩)]]⟩ ∧
  r.2.get s.next = some (.cells (.list [.int .i64 size]) false) ∧ r.2.get (s.next + 1) = some (.cells (.list [.int .i64 most]) false) ∧ Ext [] s r.2 ∧ r.2.next = s.next + 3 := by
 refine zp fun Q hQ => ?_
 rw [zj hC.inum hC.fnum rfl]
 simp (maxDischargeDepth := 8) only [sA, sM, zk, za, ze, Cells.get, getN, Nat.reduceAdd, zh, zg, Nat.reduceLeDiff, DS.wrC, Cells.size, Cells.fillFrom, Cells.set, zA, zi, pp, DS.read, Cells.take, Nat.reduceLT, d84, hG]
 refine hQ _ ⟨rfl, ?_, ?_, ?_, ?_⟩
 · simp (maxDischargeDepth := 8) only [sA, sM, Nat.reduceAdd, hG]
 · simp (maxDischargeDepth := 8) only [sA, sM, Nat.reduceAdd, hG]
 · exact (Ext.new.trans' (Ext.new.trans' Ext.new)).trans (Ext.upd (F := [s.next + 2]) (.inl (by simp))) (by simp)
 · simp (maxDischargeDepth := 8) only [sA, Nat.reduceAdd, Nat.add_assoc]
section
variable {α β : Type}
def Yv (Ra : Nat → DS → Value → α → Prop) (Rb : Nat → DS → Value → β → Prop) (o : Nat) (s : DS) (v : Value) (x : α × β) : Prop := ∃ a b : Value, v = .agg ⟨a.cells.toList ++ b.cells.toList⟩ ∧ Ra o s a x.1 ∧ Rb o s b x.2
omit hC in
theorem Wk {α β : Type} {Ra : Nat → DS → Value → α → Prop} {Rb : Nat → DS → Value → β → Prop} (ha : Zu Ra) (hb : Zu Rb) : Zu (Yv Ra Rb) :=
 ⟨fun o s s' v x ⟨a, b, e, h1, h2⟩ hs => ⟨a, b, e, ha.stab _ _ _ _ _ h1 hs, hb.stab _ _ _ _ _ h2 hs⟩, fun o o' s v x ⟨a, b, e, h1, h2⟩ hs => ⟨a, b, e, ha.mono _ _ _ _ _ h1 hs, hb.mono _ _ _ _ _ h2 hs⟩⟩
end
theorem QD {f1 f2 : Nat} {fp fg gp gg : Value} {α β : Type} {n : Nat} {Df Dg : List (Nat × DObj)} {Ra : Nat → DS → Value → α → Prop} {Rb : Nat → DS → Value → β → Prop} {Oka : α → Prop} {Okb : β → Prop} {ea : α → List Int} {eb : β → List Int}
 (ha : Zg E n fp Df Ra Oka ea) (hb : Zg E n gp Dg Rb Okb eb) (sa : Zu Ra) (sb : Zu Rb) (ca : ∀ o s v x, Ra o s v x → (∃ n, v = .int .i64 n)) (cb : ∀ o s v x, Rb o s v x → (∃ n, v = .int .i64 n)) (hcode : E.fn 82 = some d82) (hintr : E.intr 82 = none) :
 Zg E (n + 1) (.func (.func 82) #[] #[.pointer (some ⟨f1, 0, none⟩), .pointer (some ⟨f2, 0, none⟩)]) ((f1, .cells (.list [fp, fg]) false) :: (f2, .cells (.list [gp, gg]) false) :: (Df ++ Dg)) (Yv Ra Rb) (fun x => Oka x.1 ∧ Okb x.2) (fun x => ea x.1 ++ eb x.2) := by
 intro d s o bv bs v x hD hb2 h hG hv hx hlen
 obtain ⟨a, b, rfl, hra, hrb⟩ := hv
 have g1 := hD _ (List.mem_cons_self ..)
 have g2 := hD (f2, _) (List.mem_cons_of_mem _ (List.mem_cons_self ..))
 have l1 := hb2 _ (List.mem_cons_self ..)
 have l2 := hb2 (f2, _) (List.mem_cons_of_mem _ (List.mem_cons_self ..))
 simp only at g1 g2 l1 l2
 have hDf : Zo s Df := hD.sub fun p hp => List.mem_cons_of_mem _ (List.mem_cons_of_mem _ (List.mem_append_left _ hp))
 have hDg : Zo s Dg := hD.sub fun p hp => List.mem_cons_of_mem _ (List.mem_cons_of_mem _ (List.mem_append_right _ hp))
 have lf : ∀ p, p ∈ Df → p.1 < o := fun p hp => hb2 p (List.mem_cons_of_mem _ (List.mem_cons_of_mem _ (List.mem_append_left _ hp)))
 have lg : ∀ p, p ∈ Dg → p.1 < o := fun p hp => hb2 p (List.mem_cons_of_mem _ (List.mem_cons_of_mem _ (List.mem_append_right _ hp)))
 have hol := DS.get_lt' h.go
 have l1s : f1 < s.next := Nat.lt_trans l1 hol
 have l2s : f2 < s.next := Nat.lt_trans l2 hol
 rw [List.length_append] at hlen
 have hca := ca _ _ _ _ hra
 have hcb := cb _ _ _ _ hrb
 refine zp fun Q hQ => ?_
 show W (dcall E ((d + n) + 1) _ _ _) Q
 rw [zZ hintr hcode rfl]
 obtain ⟨a, rfl⟩ := hca
 obtain ⟨b, rfl⟩ := hcb
 simp (maxDischargeDepth := 8) only [sA, sM, zb, Cells.get, getN, pp, pv, Nat.reduceLT, d82, g1, g2, hG, l1s, l2s]
 obtain ⟨S1, hS1⟩ : ∃ S1 : DS, S1 = s.new (.cells (.list [.int .i64 a, .int .i64 b]) false) := ⟨_, rfl⟩
 rw [← hS1]
 have X1 : ∀ F, Ext F s S1 := fun F => by rw [hS1]; exact Ext.new
 have gS : S1.get s.next = some (.cells (.list [.int .i64 a, .int .i64 b]) false) := by rw [hS1]; exact DS.new_get_self hG
 have Y1 : Same o s S1 := fun k hk => (X1 []).get k (Nat.lt_trans hk hol) (by simp)
 have O1 : Xu S1 o bv bs := ⟨(X1 []).keep h.go (by simp), (X1 []).wrs h.wo, h.sl.keep (X1 []) (by simp), h.up, h.len⟩
 refine W.mono (ha d S1 o bv bs _ x.1 (hDf.keep (X1 []) (by simp)) lf O1 ((X1 []).good hG) (sa.stab _ _ _ _ _ hra Y1) hx.1 (by omega)) ?_
 rintro ⟨v2, s2⟩ ⟨hv2, bv2, O2, X2, b2⟩
 simp only at hv2 O2 X2 b2
 have Y2 := Y4 O1 X2
 have YY := Y1.trans Y2
 have gS2 := X2.keep gS (by
  simp only [List.mem_cons, not_or]
  exact ⟨by omega, fun hk => by have := h.sl.lt _ hk; omega⟩)
 have g22 := (YY f2 l2).trans g2
 simp only [sA, zb, Nat.reduceEqDiff, Cells.get, getN, reduceCtorEq, gS2, g22]
 refine W.mono (hb d s2 o bv2 (bs ++ ea x.1) _ x.2 (hDg.same lg YY) lg O2 (X2.good ((X1 []).good hG)) (sb.stab _ _ _ _ _ hrb YY) hx.2 (by rw [List.length_append]; omega)) ?_
 rintro ⟨v3, s3⟩ h3
 have hv3 := h3.val
 simp only at hv3
 subst hv3
 have X12 : Ext (o :: blk bv) s s2 := (X1 _).trans' X2
 have h4 := W2.next X12 (fun k hk => by
  rcases b2 k hk with h | h
  · exact .inl h
  · exact .inr (Nat.le_trans (X1 []).le h)) h3
 simp only [sA, za, ze]
 refine hQ _ ?_
 rw [← List.append_assoc]
 exact h4
theorem Cf {f1 f2 : Nat} {fp fg gp gg : Value} {α β : Type} {n : Nat} {Df Dg : List (Nat × DObj)} {Ra : Nat → DS → Value → α → Prop} {Rb : Nat → DS → Value → β → Prop} {Oka : α → Prop} {Okb : β → Prop} {ea : α → List Int} {eb : β → List Int}
 (ha : Zg E n fp Df Ra Oka ea) (hb : Zg E n gp Dg Rb Okb eb) (sa : Zu Ra) (sb : Zu Rb) (ca : ∀ o s v x, Ra o s v x → (∃ n1 n2, v = .agg ⟨[.int .i64 n1, .int .i64 n2]⟩)) (cb : ∀ o s v x, Rb o s v x → (∃ n, v = .bool n)) (hcode : E.fn 98 = some d98) (hintr : E.intr 98 = none) :
 Zg E (n + 1) (.func (.func 98) #[] #[.pointer (some ⟨f1, 0, none⟩), .pointer (some ⟨f2, 0, none⟩)]) ((f1, .cells (.list [fp, fg]) false) :: (f2, .cells (.list [gp, gg]) false) :: (Df ++ Dg)) (Yv Ra Rb) (fun x => Oka x.1 ∧ Okb x.2) (fun x => ea x.1 ++ eb x.2) := by
 intro d s o bv bs v x hD hb2 h hG hv hx hlen
 obtain ⟨a, b, rfl, hra, hrb⟩ := hv
 have g1 := hD _ (List.mem_cons_self ..)
 have g2 := hD (f2, _) (List.mem_cons_of_mem _ (List.mem_cons_self ..))
 have l1 := hb2 _ (List.mem_cons_self ..)
 have l2 := hb2 (f2, _) (List.mem_cons_of_mem _ (List.mem_cons_self ..))
 simp only at g1 g2 l1 l2
 have hDf : Zo s Df := hD.sub fun p hp => List.mem_cons_of_mem _ (List.mem_cons_of_mem _ (List.mem_append_left _ hp))
 have hDg : Zo s Dg := hD.sub fun p hp => List.mem_cons_of_mem _ (List.mem_cons_of_mem _ (List.mem_append_right _ hp))
 have lf : ∀ p, p ∈ Df → p.1 < o := fun p hp => hb2 p (List.mem_cons_of_mem _ (List.mem_cons_of_mem _ (List.mem_append_left _ hp)))
 have lg : ∀ p, p ∈ Dg → p.1 < o := fun p hp => hb2 p (List.mem_cons_of_mem _ (List.mem_cons_of_mem _ (List.mem_append_right _ hp)))
 have hol := DS.get_lt' h.go
 have l1s : f1 < s.next := Nat.lt_trans l1 hol
 have l2s : f2 < s.next := Nat.lt_trans l2 hol
 rw [List.length_append] at hlen
 have hca := ca _ _ _ _ hra
 have hcb := cb _ _ _ _ hrb
 refine zp fun Q hQ => ?_
 show W (dcall E ((d + n) + 1) _ _ _) Q
 rw [zZ hintr hcode rfl]
 obtain ⟨a1, a2, rfl⟩ := hca
 obtain ⟨b, rfl⟩ := hcb
 simp (maxDischargeDepth := 8) only [sA, sM, zb, Cells.get, getN, pp, pv, ldA, DS.read, Cells.take, Nat.reduceLT, d98, g1, g2, hG, l1s, l2s]
 obtain ⟨S1, hS1⟩ : ∃ S1 : DS, S1 = s.new (.cells (.list [.int .i64 a1, .int .i64 a2, .bool b]) false) := ⟨_, rfl⟩
 rw [← hS1]
 have X1 : ∀ F, Ext F s S1 := fun F => by rw [hS1]; exact Ext.new
 have gS : S1.get s.next = some (.cells (.list [.int .i64 a1, .int .i64 a2, .bool b]) false) := by rw [hS1]; exact DS.new_get_self hG
 have Y1 : Same o s S1 := fun k hk => (X1 []).get k (Nat.lt_trans hk hol) (by simp)
 have O1 : Xu S1 o bv bs := ⟨(X1 []).keep h.go (by simp), (X1 []).wrs h.wo, h.sl.keep (X1 []) (by simp), h.up, h.len⟩
 refine W.mono (ha d S1 o bv bs _ x.1 (hDf.keep (X1 []) (by simp)) lf O1 ((X1 []).good hG) (sa.stab _ _ _ _ _ hra Y1) hx.1 (by omega)) ?_
 rintro ⟨v2, s2⟩ ⟨hv2, bv2, O2, X2, b2⟩
 simp only at hv2 O2 X2 b2
 have Y2 := Y4 O1 X2
 have YY := Y1.trans Y2
 have gS2 := X2.keep gS (by
  simp only [List.mem_cons, not_or]
  exact ⟨by omega, fun hk => by have := h.sl.lt _ hk; omega⟩)
 have g22 := (YY f2 l2).trans g2
 simp only [sA, zb, Nat.reduceEqDiff, Cells.get, getN, reduceCtorEq, gS2, g22]
 refine W.mono (hb d s2 o bv2 (bs ++ ea x.1) _ x.2 (hDg.same lg YY) lg O2 (X2.good ((X1 []).good hG)) (sb.stab _ _ _ _ _ hrb YY) hx.2 (by rw [List.length_append]; omega)) ?_
 rintro ⟨v3, s3⟩ h3
 have hv3 := h3.val
 simp only at hv3
 subst hv3
 have X12 : Ext (o :: blk bv) s s2 := (X1 _).trans' X2
 have h4 := W2.next X12 (fun k hk => by
  rcases b2 k hk with h | h
  · exact .inl h
  · exact .inr (Nat.le_trans (X1 []).le h)) h3
 simp only [sA, za, ze]
 refine hQ _ ?_
 rw [← List.append_assoc]
 exact h4
theorem Cd {f1 f2 : Nat} {fp fg gp gg : Value} {α β : Type} {n : Nat} {Df Dg : List (Nat × DObj)} {Ra : Nat → DS → Value → α → Prop} {Rb : Nat → DS → Value → β → Prop} {Oka : α → Prop} {Okb : β → Prop} {ea : α → List Int} {eb : β → List Int}
 (ha : Zg E n fp Df Ra Oka ea) (hb : Zg E n gp Dg Rb Okb eb) (sa : Zu Ra) (sb : Zu Rb) (ca : ∀ o s v x, Ra o s v x → (∃ n, v = .int .i64 n)) (cb : ∀ o s v x, Rb o s v x → (∃ n1 n2, v = .agg ⟨[.int .i64 n1, .int .i64 n2]⟩)) (hcode : E.fn 103 = some d103) (hintr : E.intr 103 = none) :
 Zg E (n + 1) (.func (.func 103) #[] #[.pointer (some ⟨f1, 0, none⟩), .pointer (some ⟨f2, 0, none⟩)]) ((f1, .cells (.list [fp, fg]) false) :: (f2, .cells (.list [gp, gg]) false) :: (Df ++ Dg)) (Yv Ra Rb) (fun x => Oka x.1 ∧ Okb x.2) (fun x => ea x.1 ++ eb x.2) := by
 intro d s o bv bs v x hD hb2 h hG hv hx hlen
 obtain ⟨a, b, rfl, hra, hrb⟩ := hv
 have g1 := hD _ (List.mem_cons_self ..)
 have g2 := hD (f2, _) (List.mem_cons_of_mem _ (List.mem_cons_self ..))
 have l1 := hb2 _ (List.mem_cons_self ..)
 have l2 := hb2 (f2, _) (List.mem_cons_of_mem _ (List.mem_cons_self ..))
 simp only at g1 g2 l1 l2
 have hDf : Zo s Df := hD.sub fun p hp => List.mem_cons_of_mem _ (List.mem_cons_of_mem _ (List.mem_append_left _ hp))
 have hDg : Zo s Dg := hD.sub fun p hp => List.mem_cons_of_mem _ (List.mem_cons_of_mem _ (List.mem_append_right _ hp))
 have lf : ∀ p, p ∈ Df → p.1 < o := fun p hp => hb2 p (List.mem_cons_of_mem _ (List.mem_cons_of_mem _ (List.mem_append_left _ hp)))
 have lg : ∀ p, p ∈ Dg → p.1 < o := fun p hp => hb2 p (List.mem_cons_of_mem _ (List.mem_cons_of_mem _ (List.mem_append_right _ hp)))
 have hol := DS.get_lt' h.go
 have l1s : f1 < s.next := Nat.lt_trans l1 hol
 have l2s : f2 < s.next := Nat.lt_trans l2 hol
 rw [List.length_append] at hlen
 have hca := ca _ _ _ _ hra
 have hcb := cb _ _ _ _ hrb
 refine zp fun Q hQ => ?_
 show W (dcall E ((d + n) + 1) _ _ _) Q
 rw [zZ hintr hcode rfl]
 obtain ⟨a, rfl⟩ := hca
 obtain ⟨b1, b2, rfl⟩ := hcb
 simp (maxDischargeDepth := 8) only [sA, sM, zb, Cells.get, getN, pp, pv, Nat.reduceLT, d103, g1, g2, hG, l1s, l2s]
 obtain ⟨S1, hS1⟩ : ∃ S1 : DS, S1 = s.new (.cells (.list [.int .i64 a, .int .i64 b1, .int .i64 b2]) false) := ⟨_, rfl⟩
 rw [← hS1]
 have X1 : ∀ F, Ext F s S1 := fun F => by rw [hS1]; exact Ext.new
 have gS : S1.get s.next = some (.cells (.list [.int .i64 a, .int .i64 b1, .int .i64 b2]) false) := by rw [hS1]; exact DS.new_get_self hG
 have Y1 : Same o s S1 := fun k hk => (X1 []).get k (Nat.lt_trans hk hol) (by simp)
 have O1 : Xu S1 o bv bs := ⟨(X1 []).keep h.go (by simp), (X1 []).wrs h.wo, h.sl.keep (X1 []) (by simp), h.up, h.len⟩
 refine W.mono (ha d S1 o bv bs _ x.1 (hDf.keep (X1 []) (by simp)) lf O1 ((X1 []).good hG) (sa.stab _ _ _ _ _ hra Y1) hx.1 (by omega)) ?_
 rintro ⟨v2, s2⟩ ⟨hv2, bv2, O2, X2, b2⟩
 simp only at hv2 O2 X2 b2
 have Y2 := Y4 O1 X2
 have YY := Y1.trans Y2
 have gS2 := X2.keep gS (by
  simp only [List.mem_cons, not_or]
  exact ⟨by omega, fun hk => by have := h.sl.lt _ hk; omega⟩)
 have g22 := (YY f2 l2).trans g2
 simp only [sA, zb, Nat.reduceEqDiff, Cells.get, getN, reduceCtorEq, ldA, DS.read, Cells.take, gS2, g22]
 refine W.mono (hb d s2 o bv2 (bs ++ ea x.1) _ x.2 (hDg.same lg YY) lg O2 (X2.good ((X1 []).good hG)) (sb.stab _ _ _ _ _ hrb YY) hx.2 (by rw [List.length_append]; omega)) ?_
 rintro ⟨v3, s3⟩ h3
 have hv3 := h3.val
 simp only at hv3
 subst hv3
 have X12 : Ext (o :: blk bv) s s2 := (X1 _).trans' X2
 have h4 := W2.next X12 (fun k hk => by
  rcases b2 k hk with h | h
  · exact .inl h
  · exact .inr (Nat.le_trans (X1 []).le h)) h3
 simp only [sA, za, ze]
 refine hQ _ ?_
 rw [← List.append_assoc]
 exact h4
theorem Ch {f1 f2 : Nat} {fp fg gp gg : Value} {α β : Type} {n : Nat} {Df Dg : List (Nat × DObj)} {Ra : Nat → DS → Value → α → Prop} {Rb : Nat → DS → Value → β → Prop} {Oka : α → Prop} {Okb : β → Prop} {ea : α → List Int} {eb : β → List Int}
 (ha : Zg E n fp Df Ra Oka ea) (hb : Zg E n gp Dg Rb Okb eb) (sa : Zu Ra) (sb : Zu Rb) (ca : ∀ o s v x, Ra o s v x → (∃ n1 n2 n3, v = .agg ⟨[.int .i64 n1, .int .i64 n2, .bool n3]⟩)) (cb : ∀ o s v x, Rb o s v x → (∃ n1 n2 n3, v = .agg ⟨[.int .i64 n1, .int .i64 n2, .int .i64 n3]⟩)) (hcode : E.fn 96 = some d96) (hintr : E.intr 96 = none) :
 Zg E (n + 1) (.func (.func 96) #[] #[.pointer (some ⟨f1, 0, none⟩), .pointer (some ⟨f2, 0, none⟩)]) ((f1, .cells (.list [fp, fg]) false) :: (f2, .cells (.list [gp, gg]) false) :: (Df ++ Dg)) (Yv Ra Rb) (fun x => Oka x.1 ∧ Okb x.2) (fun x => ea x.1 ++ eb x.2) := by
 intro d s o bv bs v x hD hb2 h hG hv hx hlen
 obtain ⟨a, b, rfl, hra, hrb⟩ := hv
 have g1 := hD _ (List.mem_cons_self ..)
 have g2 := hD (f2, _) (List.mem_cons_of_mem _ (List.mem_cons_self ..))
 have l1 := hb2 _ (List.mem_cons_self ..)
 have l2 := hb2 (f2, _) (List.mem_cons_of_mem _ (List.mem_cons_self ..))
 simp only at g1 g2 l1 l2
 have hDf : Zo s Df := hD.sub fun p hp => List.mem_cons_of_mem _ (List.mem_cons_of_mem _ (List.mem_append_left _ hp))
 have hDg : Zo s Dg := hD.sub fun p hp => List.mem_cons_of_mem _ (List.mem_cons_of_mem _ (List.mem_append_right _ hp))
 have lf : ∀ p, p ∈ Df → p.1 < o := fun p hp => hb2 p (List.mem_cons_of_mem _ (List.mem_cons_of_mem _ (List.mem_append_left _ hp)))
 have lg : ∀ p, p ∈ Dg → p.1 < o := fun p hp => hb2 p (List.mem_cons_of_mem _ (List.mem_cons_of_mem _ (List.mem_append_right _ hp)))
 have hol := DS.get_lt' h.go
 have l1s : f1 < s.next := Nat.lt_trans l1 hol
 have l2s : f2 < s.next := Nat.lt_trans l2 hol
 rw [List.length_append] at hlen
 have hca := ca _ _ _ _ hra
 have hcb := cb _ _ _ _ hrb
 refine zp fun Q hQ => ?_
 show W (dcall E ((d + n) + 1) _ _ _) Q
 rw [zZ hintr hcode rfl]
 obtain ⟨a1, a2, a3, rfl⟩ := hca
 obtain ⟨b1, b2, b3, rfl⟩ := hcb
 simp (maxDischargeDepth := 8) only [sA, sM, zb, Cells.get, getN, pp, pv, ldA, DS.read, Cells.take, Nat.reduceLT, d96, g1, g2, hG, l1s, l2s]
 obtain ⟨S1, hS1⟩ : ∃ S1 : DS, S1 = s.new (.cells (.list [.int .i64 a1, .int .i64 a2, .bool a3, .int .i64 b1, .int .i64 b2, .int .i64 b3]) false) := ⟨_, rfl⟩
 rw [← hS1]
 have X1 : ∀ F, Ext F s S1 := fun F => by rw [hS1]; exact Ext.new
 have gS : S1.get s.next = some (.cells (.list [.int .i64 a1, .int .i64 a2, .bool a3, .int .i64 b1, .int .i64 b2, .int .i64 b3]) false) := by rw [hS1]; exact DS.new_get_self hG
 have Y1 : Same o s S1 := fun k hk => (X1 []).get k (Nat.lt_trans hk hol) (by simp)
 have O1 : Xu S1 o bv bs := ⟨(X1 []).keep h.go (by simp), (X1 []).wrs h.wo, h.sl.keep (X1 []) (by simp), h.up, h.len⟩
 refine W.mono (ha d S1 o bv bs _ x.1 (hDf.keep (X1 []) (by simp)) lf O1 ((X1 []).good hG) (sa.stab _ _ _ _ _ hra Y1) hx.1 (by omega)) ?_
 rintro ⟨v2, s2⟩ ⟨hv2, bv2, O2, X2, b2⟩
 simp only at hv2 O2 X2 b2
 have Y2 := Y4 O1 X2
 have YY := Y1.trans Y2
 have gS2 := X2.keep gS (by
  simp only [List.mem_cons, not_or]
  exact ⟨by omega, fun hk => by have := h.sl.lt _ hk; omega⟩)
 have g22 := (YY f2 l2).trans g2
 simp only [sA, zb, Nat.reduceEqDiff, Cells.get, getN, reduceCtorEq, ldA, DS.read, Cells.take, gS2, g22]
 refine W.mono (hb d s2 o bv2 (bs ++ ea x.1) _ x.2 (hDg.same lg YY) lg O2 (X2.good ((X1 []).good hG)) (sb.stab _ _ _ _ _ hrb YY) hx.2 (by rw [List.length_append]; omega)) ?_
 rintro ⟨v3, s3⟩ h3
 have hv3 := h3.val
 simp only at hv3
 subst hv3
 have X12 : Ext (o :: blk bv) s s2 := (X1 _).trans' X2
 have h4 := W2.next X12 (fun k hk => by
  rcases b2 k hk with h | h
  · exact .inl h
  · exact .inr (Nat.le_trans (X1 []).le h)) h3
 simp only [sA, za, ze]
 refine hQ _ ?_
 rw [← List.append_assoc]
 exact h4
def P1 (_ : Nat) (_ : DS) (v : Value) (x : Bool) : Prop := v = .bool x
omit hC in
theorem CI : Zu P1 := ⟨fun _ _ _ _ _ h _ => h, fun _ _ _ _ _ h _ => h⟩
def Cq (b : Bool) : Int := if b then 1 else 0
def Qk (b : Bool) : List Int := leB (Cq b) 1
theorem RZ {s : DS} (h : E.fn 101 = some d101) (i : E.intr 101 = none) (b : Bool) : dcall E (d + 1) (.func (.func 101) #[] #[]) [.bool b] s = some (.int .i64 (Cq b), s) := by
 rw [← Dm, zj i h rfl]
 cases b
 · simp only [sA, za, ze, reduceCtorEq, pp, pv, d101]
   rfl
 · simp only [sA, za, ze, reduceCtorEq, pp, pv, d101]
   rfl
theorem Dz {f1 t1 : Nat} {fp fg : Value} {n : Nat} {D : List (Nat × DObj)} (ha : Zg E n fp D Jg (Xk 1 1) (fun x => leB x 1)) (hn : 1 ≤ n)
 (ht : E.fn 124 = some d124) (it : E.intr 124 = none) (h1 : E.fn 101 = some d101) (i1 : E.intr 101 = none) (hf : ∀ d, zG (dcall E d)) :
 Zg E (n + 1) (.func (.func 124) #[] #[.pointer (some ⟨f1, 0, none⟩), .pointer (some ⟨t1, 0, none⟩)]) ((f1, .cells (.list [fp, fg]) false) :: (t1, .cells (.list [.func (.func 101) #[] #[]]) false) :: D) P1 (fun _ => True) Qk := by
 intro d s o bv bs v x hD hb2 h hG hv hx hlen
 have hv : v = .bool x := hv
 subst hv
 have g1 := hD _ (List.mem_cons_self ..)
 have g2 := hD (t1, _) (List.mem_cons_of_mem _ (List.mem_cons_self ..))
 simp only at g1 g2
 have hDf : Zo s D := hD.sub fun p hp => List.mem_cons_of_mem _ (List.mem_cons_of_mem _ hp)
 have lf : ∀ p, p ∈ D → p.1 < o := fun p hp => hb2 p (List.mem_cons_of_mem _ (List.mem_cons_of_mem _ hp))
 refine zp fun Q hQ => ?_
 obtain ⟨n, rfl⟩ : ∃ n', n = n' + 1 := ⟨n - 1, by omega⟩
 show W (dcall E ((d + n + 1) + 1) _ _ _) Q
 rw [zZ it ht rfl]
 have hfl : ∀ s, dcall E (d + n + 1) (.func (.func 101) #[] #[]) [.bool x] s = some (.int .i64 (Cq x), s) := fun s => RZ hC h1 i1 x
 simp only [sA, zb, Nat.reduceEqDiff, Cells.get, getN, reduceCtorEq, foot, d124, g1, g2, hfl]
 refine W.mono (ha d s o bv bs _ (Cq x) hDf lf h hG rfl (.inr (by cases x <;> simp [Cq])) hlen) ?_
 rintro ⟨v3, s3⟩ h3
 have hv3 := h3.val
 simp only at hv3
 subst hv3
 simp only [sA, za, ze]
 exact hQ _ ⟨rfl, h3.ex⟩
theorem Wv {α β : Type} {n m : Nat} (hm : m ≤ s.next) {va vb : Value} {Ra : Nat → DS → Value → α → Prop} {Rb : Nat → DS → Value → β → Prop} {Oka : α → Prop} {Okb : β → Prop} {ea : α → List Int} {eb : β → List Int}
 (hG : s.Good) (ha : zz E n m s va Ra Oka ea) (hb : zz E n m s vb Rb Okb eb) (hcode : E.fn 53 = some d53) (hintr : E.intr 53 = none)
 (hput : ∀ {f1 f2 : Nat} {fp fg gp gg : Value} {Df Dg : List (Nat × DObj)}, Zg E n fp Df Ra Oka ea → Zg E n gp Dg Rb Okb eb → Zg E (n + 1) (.func (.func 82) #[] #[.pointer (some ⟨f1, 0, none⟩), .pointer (some ⟨f2, 0, none⟩)]) ((f1, .cells (.list [fp, fg]) false) :: (f2, .cells (.list [gp, gg]) false) :: (Df ++ Dg)) (Yv Ra Rb) (fun x => Oka x.1 ∧ Okb x.2) (fun x => ea x.1 ++ eb x.2)) :
 W (dcall E (d + 1) (.func (.func 53) #[] #[]) [va, vb] s) fun r => zz E (n + 1) m r.2 r.1 (Yv Ra Rb) (fun x => Oka x.1 ∧ Okb x.2) (fun x => ea x.1 ++ eb x.2) ∧ Ext [] s r.2 := by
 obtain ⟨f1, a1, b1, g1, p1, q1, D1, rfl, h2, h3, h4⟩ := ha
 obtain ⟨f2, a2, b2, g2, p2, q2, D2, rfl, k2, k3, k4⟩ := hb
 refine zp fun Q hQ => ?_
 rw [zj hintr hcode rfl]
 simp (maxDischargeDepth := 8) only [sA, sM, zb, zk, zH, za, ze, Cells.get, getN, Nat.reduceAdd, zh, zg, Nat.reduceLeDiff, DS.wrC, Cells.size, Cells.fillFrom, Cells.set, zA, zi, pp, pv, pg, DS.read, Cells.take, Nat.reduceLT, d53, hG]
 have X : ∀ o1 o2 o3 o4, Ext [] s ((((s.new o1).new o2).new o3).upd (s.next + 2) o4) := fun _ _ _ _ => (Ext.new.trans' (Ext.new.trans' Ext.new)).trans (Ext.upd (F := [s.next + 2]) (.inl (by simp))) (by simp)
 refine hQ _ ⟨⟨_, _, _, _, _, _, _, rfl, ?_, ?_, hput (f1 := s.next) (f2 := s.next + 1) (fg := .func (.func g1) p1 q1) (gg := .func (.func g2) p2 q2) h4 k4⟩, X _ _ _ _⟩
 · intro p hp
   rcases List.mem_cons.1 hp with rfl | hp
   · simp (maxDischargeDepth := 8) only [sA, sM, Nat.reduceAdd, hG]
   · rcases List.mem_cons.1 hp with rfl | hp
     · simp (maxDischargeDepth := 8) only [sA, sM, Nat.reduceAdd, hG]
     · rcases List.mem_append.1 hp with hp | hp
       · exact (X _ _ _ _).keep (h2 p hp) (by simp)
       · exact (X _ _ _ _).keep (k2 p hp) (by simp)
 · intro p hp
   have hn : ∀ o1 o2 o3 o4, ((((s.new o1).new o2).new o3).upd (s.next + 2) o4).next = s.next + 3 := fun _ _ _ _ => by simp (maxDischargeDepth := 8) only [sA, Nat.reduceAdd, Nat.add_assoc]
   rw [hn]
   rcases List.mem_cons.1 hp with rfl | hp
   · show m ≤ s.next ∧ s.next < s.next + 3; omega
   · rcases List.mem_cons.1 hp with rfl | hp
     · show m ≤ s.next + 1 ∧ s.next + 1 < s.next + 3; omega
     · rcases List.mem_append.1 hp with hp | hp
       · have := h3 p hp; omega
       · have := k3 p hp; omega
theorem Gt {α β : Type} {n m : Nat} (hm : m ≤ s.next) {va vb : Value} {Ra : Nat → DS → Value → α → Prop} {Rb : Nat → DS → Value → β → Prop} {Oka : α → Prop} {Okb : β → Prop} {ea : α → List Int} {eb : β → List Int}
 (hG : s.Good) (ha : zz E n m s va Ra Oka ea) (hb : zz E n m s vb Rb Okb eb) (hcode : E.fn 61 = some d61) (hintr : E.intr 61 = none)
 (hput : ∀ {f1 f2 : Nat} {fp fg gp gg : Value} {Df Dg : List (Nat × DObj)}, Zg E n fp Df Ra Oka ea → Zg E n gp Dg Rb Okb eb → Zg E (n + 1) (.func (.func 98) #[] #[.pointer (some ⟨f1, 0, none⟩), .pointer (some ⟨f2, 0, none⟩)]) ((f1, .cells (.list [fp, fg]) false) :: (f2, .cells (.list [gp, gg]) false) :: (Df ++ Dg)) (Yv Ra Rb) (fun x => Oka x.1 ∧ Okb x.2) (fun x => ea x.1 ++ eb x.2)) :
 W (dcall E (d + 1) (.func (.func 61) #[] #[]) [va, vb] s) fun r => zz E (n + 1) m r.2 r.1 (Yv Ra Rb) (fun x => Oka x.1 ∧ Okb x.2) (fun x => ea x.1 ++ eb x.2) ∧ Ext [] s r.2 := by
 obtain ⟨f1, a1, b1, g1, p1, q1, D1, rfl, h2, h3, h4⟩ := ha
 obtain ⟨f2, a2, b2, g2, p2, q2, D2, rfl, k2, k3, k4⟩ := hb
 refine zp fun Q hQ => ?_
 rw [zj hintr hcode rfl]
 simp (maxDischargeDepth := 8) only [sA, sM, zb, zk, zH, za, ze, Cells.get, getN, Nat.reduceAdd, zh, zg, Nat.reduceLeDiff, DS.wrC, Cells.size, Cells.fillFrom, Cells.set, zA, zi, pp, pv, pg, DS.read, Cells.take, Nat.reduceLT, d61, hG]
 have X : ∀ o1 o2 o3 o4, Ext [] s ((((s.new o1).new o2).new o3).upd (s.next + 2) o4) := fun _ _ _ _ => (Ext.new.trans' (Ext.new.trans' Ext.new)).trans (Ext.upd (F := [s.next + 2]) (.inl (by simp))) (by simp)
 refine hQ _ ⟨⟨_, _, _, _, _, _, _, rfl, ?_, ?_, hput (f1 := s.next) (f2 := s.next + 1) (fg := .func (.func g1) p1 q1) (gg := .func (.func g2) p2 q2) h4 k4⟩, X _ _ _ _⟩
 · intro p hp
   rcases List.mem_cons.1 hp with rfl | hp
   · simp (maxDischargeDepth := 8) only [sA, sM, Nat.reduceAdd, hG]
   · rcases List.mem_cons.1 hp with rfl | hp
     · simp (maxDischargeDepth := 8) only [sA, sM, Nat.reduceAdd, hG]
     · rcases List.mem_append.1 hp with hp | hp
       · exact (X _ _ _ _).keep (h2 p hp) (by simp)
       · exact (X _ _ _ _).keep (k2 p hp) (by simp)
 · intro p hp
   have hn : ∀ o1 o2 o3 o4, ((((s.new o1).new o2).new o3).upd (s.next + 2) o4).next = s.next + 3 := fun _ _ _ _ => by simp (maxDischargeDepth := 8) only [sA, Nat.reduceAdd, Nat.add_assoc]
   rw [hn]
   rcases List.mem_cons.1 hp with rfl | hp
   · show m ≤ s.next ∧ s.next < s.next + 3; omega
   · rcases List.mem_cons.1 hp with rfl | hp
     · show m ≤ s.next + 1 ∧ s.next + 1 < s.next + 3; omega
     · rcases List.mem_append.1 hp with hp | hp
       · have := h3 p hp; omega
       · have := k3 p hp; omega
theorem Gs {α β : Type} {n m : Nat} (hm : m ≤ s.next) {va vb : Value} {Ra : Nat → DS → Value → α → Prop} {Rb : Nat → DS → Value → β → Prop} {Oka : α → Prop} {Okb : β → Prop} {ea : α → List Int} {eb : β → List Int}
 (hG : s.Good) (ha : zz E n m s va Ra Oka ea) (hb : zz E n m s vb Rb Okb eb) (hcode : E.fn 63 = some d63) (hintr : E.intr 63 = none)
 (hput : ∀ {f1 f2 : Nat} {fp fg gp gg : Value} {Df Dg : List (Nat × DObj)}, Zg E n fp Df Ra Oka ea → Zg E n gp Dg Rb Okb eb → Zg E (n + 1) (.func (.func 103) #[] #[.pointer (some ⟨f1, 0, none⟩), .pointer (some ⟨f2, 0, none⟩)]) ((f1, .cells (.list [fp, fg]) false) :: (f2, .cells (.list [gp, gg]) false) :: (Df ++ Dg)) (Yv Ra Rb) (fun x => Oka x.1 ∧ Okb x.2) (fun x => ea x.1 ++ eb x.2)) :
 W (dcall E (d + 1) (.func (.func 63) #[] #[]) [va, vb] s) fun r => zz E (n + 1) m r.2 r.1 (Yv Ra Rb) (fun x => Oka x.1 ∧ Okb x.2) (fun x => ea x.1 ++ eb x.2) ∧ Ext [] s r.2 := by
 obtain ⟨f1, a1, b1, g1, p1, q1, D1, rfl, h2, h3, h4⟩ := ha
 obtain ⟨f2, a2, b2, g2, p2, q2, D2, rfl, k2, k3, k4⟩ := hb
 refine zp fun Q hQ => ?_
 rw [zj hintr hcode rfl]
 simp (maxDischargeDepth := 8) only [sA, sM, zb, zk, zH, za, ze, Cells.get, getN, Nat.reduceAdd, zh, zg, Nat.reduceLeDiff, DS.wrC, Cells.size, Cells.fillFrom, Cells.set, zA, zi, pp, pv, pg, DS.read, Cells.take, Nat.reduceLT, d63, hG]
 have X : ∀ o1 o2 o3 o4, Ext [] s ((((s.new o1).new o2).new o3).upd (s.next + 2) o4) := fun _ _ _ _ => (Ext.new.trans' (Ext.new.trans' Ext.new)).trans (Ext.upd (F := [s.next + 2]) (.inl (by simp))) (by simp)
 refine hQ _ ⟨⟨_, _, _, _, _, _, _, rfl, ?_, ?_, hput (f1 := s.next) (f2 := s.next + 1) (fg := .func (.func g1) p1 q1) (gg := .func (.func g2) p2 q2) h4 k4⟩, X _ _ _ _⟩
 · intro p hp
   rcases List.mem_cons.1 hp with rfl | hp
   · simp (maxDischargeDepth := 8) only [sA, sM, Nat.reduceAdd, hG]
   · rcases List.mem_cons.1 hp with rfl | hp
     · simp (maxDischargeDepth := 8) only [sA, sM, Nat.reduceAdd, hG]
     · rcases List.mem_append.1 hp with hp | hp
       · exact (X _ _ _ _).keep (h2 p hp) (by simp)
       · exact (X _ _ _ _).keep (k2 p hp) (by simp)
 · intro p hp
   have hn : ∀ o1 o2 o3 o4, ((((s.new o1).new o2).new o3).upd (s.next + 2) o4).next = s.next + 3 := fun _ _ _ _ => by simp (maxDischargeDepth := 8) only [sA, Nat.reduceAdd, Nat.add_assoc]
   rw [hn]
   rcases List.mem_cons.1 hp with rfl | hp
   · show m ≤ s.next ∧ s.next < s.next + 3; omega
   · rcases List.mem_cons.1 hp with rfl | hp
     · show m ≤ s.next + 1 ∧ s.next + 1 < s.next + 3; omega
     · rcases List.mem_append.1 hp with hp | hp
       · have := h3 p hp; omega
       · have := k3 p hp; omega
theorem Gu {α β : Type} {n m : Nat} (hm : m ≤ s.next) {va vb : Value} {Ra : Nat → DS → Value → α → Prop} {Rb : Nat → DS → Value → β → Prop} {Oka : α → Prop} {Okb : β → Prop} {ea : α → List Int} {eb : β → List Int}
 (hG : s.Good) (ha : zz E n m s va Ra Oka ea) (hb : zz E n m s vb Rb Okb eb) (hcode : E.fn 60 = some d60) (hintr : E.intr 60 = none)
 (hput : ∀ {f1 f2 : Nat} {fp fg gp gg : Value} {Df Dg : List (Nat × DObj)}, Zg E n fp Df Ra Oka ea → Zg E n gp Dg Rb Okb eb → Zg E (n + 1) (.func (.func 96) #[] #[.pointer (some ⟨f1, 0, none⟩), .pointer (some ⟨f2, 0, none⟩)]) ((f1, .cells (.list [fp, fg]) false) :: (f2, .cells (.list [gp, gg]) false) :: (Df ++ Dg)) (Yv Ra Rb) (fun x => Oka x.1 ∧ Okb x.2) (fun x => ea x.1 ++ eb x.2)) :
 W (dcall E (d + 1) (.func (.func 60) #[] #[]) [va, vb] s) fun r => zz E (n + 1) m r.2 r.1 (Yv Ra Rb) (fun x => Oka x.1 ∧ Okb x.2) (fun x => ea x.1 ++ eb x.2) ∧ Ext [] s r.2 := by
 obtain ⟨f1, a1, b1, g1, p1, q1, D1, rfl, h2, h3, h4⟩ := ha
 obtain ⟨f2, a2, b2, g2, p2, q2, D2, rfl, k2, k3, k4⟩ := hb
 refine zp fun Q hQ => ?_
 rw [zj hintr hcode rfl]
 simp (maxDischargeDepth := 8) only [sA, sM, zb, zk, zH, za, ze, Cells.get, getN, Nat.reduceAdd, zh, zg, Nat.reduceLeDiff, DS.wrC, Cells.size, Cells.fillFrom, Cells.set, zA, zi, pp, pv, pg, DS.read, Cells.take, Nat.reduceLT, d60, hG]
 have X : ∀ o1 o2 o3 o4, Ext [] s ((((s.new o1).new o2).new o3).upd (s.next + 2) o4) := fun _ _ _ _ => (Ext.new.trans' (Ext.new.trans' Ext.new)).trans (Ext.upd (F := [s.next + 2]) (.inl (by simp))) (by simp)
 refine hQ _ ⟨⟨_, _, _, _, _, _, _, rfl, ?_, ?_, hput (f1 := s.next) (f2 := s.next + 1) (fg := .func (.func g1) p1 q1) (gg := .func (.func g2) p2 q2) h4 k4⟩, X _ _ _ _⟩
 · intro p hp
   rcases List.mem_cons.1 hp with rfl | hp
   · simp (maxDischargeDepth := 8) only [sA, sM, Nat.reduceAdd, hG]
   · rcases List.mem_cons.1 hp with rfl | hp
     · simp (maxDischargeDepth := 8) only [sA, sM, Nat.reduceAdd, hG]
     · rcases List.mem_append.1 hp with hp | hp
       · exact (X _ _ _ _).keep (h2 p hp) (by simp)
       · exact (X _ _ _ _).keep (k2 p hp) (by simp)
 · intro p hp
   have hn : ∀ o1 o2 o3 o4, ((((s.new o1).new o2).new o3).upd (s.next + 2) o4).next = s.next + 3 := fun _ _ _ _ => by simp (maxDischargeDepth := 8) only [sA, Nat.reduceAdd, Nat.add_assoc]
   rw [hn]
   rcases List.mem_cons.1 hp with rfl | hp
   · show m ≤ s.next ∧ s.next < s.next + 3; omega
   · rcases List.mem_cons.1 hp with rfl | hp
     · show m ≤ s.next + 1 ∧ s.next + 1 < s.next + 3; omega
     · rcases List.mem_append.1 hp with hp | hp
       · have := h3 p hp; omega
       · have := k3 p hp; omega
theorem WV (hG : s.Good) {m : Nat} (hm : m ≤ s.next) (hcode : E.fn 54 = some d54) (hintr : E.intr 54 = none) :
 W (dcall E (d + 2) (.func (.func 54) #[] #[]) [] s) fun r => zz E 3 m r.2 r.1 Jg (Xk 1 255) (fun x => leB x 1) ∧ Ext [] s r.2 := by
 refine zp fun Q hQ => ?_
 rw [zj hintr hcode rfl]
 simp (maxDischargeDepth := 8) only [sA, pp, d54, hG]
 refine W.mono (XL hC (DS.new_good hG) _ _) ?_
 rintro ⟨v2, s2⟩ ⟨hv2, n1, n2, X2, hn2⟩
 simp only [DS.new_next] at hv2 n1 n2 X2 hn2
 subst hv2
 have T0 := X2.keep (DS.new_get_self (o := .cells (.list [.nilFunc, .nilFunc]) false) hG) (by simp)
 have wT := X2.wrs (show (s.new (.cells (.list [.nilFunc, .nilFunc]) false)).wr s.next = true from (hG _ (Nat.le_refl _)).2)
 simp (maxDischargeDepth := 8) only [sA, sM, zk, za, ze, Cells.get, getN, Nat.reduceAdd, zh, zg, DS.wrC, Cells.size, Cells.fillFrom, Cells.set, zA, DS.read, Cells.take, T0, wT]
 have X3 : ∀ o, Ext [] s (s2.upd s.next o) := fun o => (Ext.new.trans' X2).trans (Ext.upd (F := [s.next]) (.inl (by simp))) (by simp)
 refine hQ _ ⟨⟨_, _, _, _, _, _, [(s.next + 1, .cells (.list [.int .i64 ((1 : Nat) : Int)]) false), (s.next + 2, .cells (.list [.int .i64 255]) false)], rfl, ?_, ?_, QO hC (by omega)⟩, X3 _⟩
 · intro p hp
   rcases List.mem_cons.1 hp with rfl | hp
   · simp (maxDischargeDepth := 8) only [sA, n1, show ¬ s.next + 1 = s.next by omega]
     rfl
   · rcases List.mem_cons.1 hp with rfl | hp
     · simp (maxDischargeDepth := 8) only [sA, n2, show ¬ s.next + 2 = s.next by omega]
     · cases hp
 · intro p hp
   have : m ≤ p.1 ∧ p.1 < s2.next := by
    rcases List.mem_cons.1 hp with rfl | hp
    · show m ≤ s.next + 1 ∧ s.next + 1 < s2.next; omega
    · rcases List.mem_cons.1 hp with rfl | hp
      · show m ≤ s.next + 2 ∧ s.next + 2 < s2.next; omega
      · cases hp
   simp (maxDischargeDepth := 8) only [DS.upd_next]
   exact this
theorem Ys (hG : s.Good) {m : Nat} (hm : m ≤ s.next) (hcode : E.fn 55 = some d55) (hintr : E.intr 55 = none) :
 W (dcall E (d + 2) (.func (.func 55) #[] #[]) [] s) fun r => zz E 3 m r.2 r.1 Jg (Xk 8 0) (fun x => leB x 8) ∧ Ext [] s r.2 := by
 refine zp fun Q hQ => ?_
 rw [zj hintr hcode rfl]
 simp (maxDischargeDepth := 8) only [sA, pp, d55, hG]
 refine W.mono (XL hC (DS.new_good hG) _ _) ?_
 rintro ⟨v2, s2⟩ ⟨hv2, n1, n2, X2, hn2⟩
 simp only [DS.new_next] at hv2 n1 n2 X2 hn2
 subst hv2
 have T0 := X2.keep (DS.new_get_self (o := .cells (.list [.nilFunc, .nilFunc]) false) hG) (by simp)
 have wT := X2.wrs (show (s.new (.cells (.list [.nilFunc, .nilFunc]) false)).wr s.next = true from (hG _ (Nat.le_refl _)).2)
 simp (maxDischargeDepth := 8) only [sA, sM, zk, za, ze, Cells.get, getN, Nat.reduceAdd, zh, zg, DS.wrC, Cells.size, Cells.fillFrom, Cells.set, zA, DS.read, Cells.take, T0, wT]
 have X3 : ∀ o, Ext [] s (s2.upd s.next o) := fun o => (Ext.new.trans' X2).trans (Ext.upd (F := [s.next]) (.inl (by simp))) (by simp)
 refine hQ _ ⟨⟨_, _, _, _, _, _, [(s.next + 1, .cells (.list [.int .i64 ((8 : Nat) : Int)]) false), (s.next + 2, .cells (.list [.int .i64 0]) false)], rfl, ?_, ?_, QO hC (by omega)⟩, X3 _⟩
 · intro p hp
   rcases List.mem_cons.1 hp with rfl | hp
   · simp (maxDischargeDepth := 8) only [sA, n1, show ¬ s.next + 1 = s.next by omega]
     rfl
   · rcases List.mem_cons.1 hp with rfl | hp
     · simp (maxDischargeDepth := 8) only [sA, n2, show ¬ s.next + 2 = s.next by omega]
     · cases hp
 · intro p hp
   have : m ≤ p.1 ∧ p.1 < s2.next := by
    rcases List.mem_cons.1 hp with rfl | hp
    · show m ≤ s.next + 1 ∧ s.next + 1 < s2.next; omega
    · rcases List.mem_cons.1 hp with rfl | hp
      · show m ≤ s.next + 2 ∧ s.next + 2 < s2.next; omega
      · cases hp
   simp (maxDischargeDepth := 8) only [DS.upd_next]
   exact this
theorem Th {v : Value} {l : List Int} (h : SlC s 1 v (zI l)) (hcode : E.fn 51 = some d51) (hintr : E.intr 51 = none) :
 ∃ w, dcall E (d + 1) (.func (.func 51) #[] #[]) [v] s = some (w, s) ∧ SlV s 1 w (zI l) ∧ (∃ a, w = .slice a l.length l.length ∧ ∀ x, a = some x → x.spot = none) ∧ blk w = blk v := by
 obtain ⟨a, c, hv, hc⟩ := h.shape'
 have hvw := h.view (ZQ l)
 rw [zr] at hv hc
 have e1 : Nat.ble l.length c = true := Nat.ble_eq.mpr hc
 have e2 : Nat.ble l.length l.length = true := Nat.ble_eq.mpr (Nat.le_refl _)
 have key : ∀ w, slV 1 v none (some (.int .i64 (l.length : Int))) (some (.int .i64 (l.length : Int))) = some w → dcall E (d + 1) (.func (.func 51) #[] #[]) [v] s = some (w, s) := by
  intro w hw
  rw [← Dm, zj hintr hcode rfl]
  subst hv
  simp only [sA, zb, Nat.reduceEqDiff, za, ze, reduceCtorEq, pp, pv, d51, hw]
 rcases hvw with ⟨h1, h2⟩ | ⟨b, off, sp, c', h1, h2⟩
 · have hl : l = [] := by simpa [zI] using h2
   subst hl
   rw [h1] at hv
   cases hv
   exact ⟨.slice none 0 0, key _ (by subst h1; rfl), .inl ⟨rfl, rfl⟩, ⟨none, rfl, fun _ h => (nomatch h)⟩, by rw [h1]⟩
 · rw [zr] at h1
   have hw : slV 1 v none (some (.int .i64 (l.length : Int))) (some (.int .i64 (l.length : Int))) = some (.slice (some ⟨b, off, none⟩) l.length l.length) := by
    rw [hv] at h1
    cases h1
    rw [hv]
    unfold slV ZS
    simp only [sA, e1, e2, Yd, Nat.sub_zero]
   exact ⟨_, key _ hw, .inr ⟨b, off, none, l.length, by rw [zr], h2⟩, ⟨_, rfl, fun _ h => by cases h; rfl⟩, by rw [h1]; rfl⟩
theorem FS {α : Type} {n m : Nat} {fv xv : Value} {Rep : Nat → DS → Value → α → Prop} {Ok : α → Prop} {enc : α → List Int} {x : α} {x1 x2 : Int} {x3 : Bool} {x4 x5 x6 : Int} (hG : s.Good) (hf : zz E n m s fv Rep Ok enc) (hr : Rep s.next s xv x) (hst : Zu Rep) (hok : Ok x) (hlen : (enc x).length ≤ 1048576)
 (hxv : xv = .agg ⟨[.int .i64 x1, .int .i64 x2, .bool x3, .int .i64 x4, .int .i64 x5, .int .i64 x6]⟩) (hcode : E.fn 28 = some d28) (hintr : E.intr 28 = none) (hclip : E.fn 51 = some d51) (iclip : E.intr 51 = none) :
 W (dcall E ((d + n + 1) + 1) (.func (.func 28) #[] #[]) [fv, xv] s) fun r => ∃ w, r.1 = .tuple ⟨[w, .int .i64 0]⟩ ∧ SlV r.2 1 w (zI (enc x)) ∧ (∃ a, w = .slice a (enc x).length (enc x).length ∧ ∀ z, a = some z → z.spot = none) ∧ (∀ k, k ∈ blk w → s.next ≤ k ∧ k < r.2.next) ∧ Ext [] s r.2 := by
 obtain ⟨f, a, b, g, a', b', D, rfl, h2, h3, h4⟩ := hf
 subst hxv
 refine zp fun Q hQ => ?_
 rw [zj hintr hcode rfl]
 simp (maxDischargeDepth := 8) only [sA, sM, zb, zH, Cells.get, getN, Nat.reduceAdd, zi, pp, pv, ldA, DS.read, Cells.take, Nat.reduceLT, d28, hG]
 obtain ⟨S, hS⟩ : ∃ S : DS, S = ((s.new (.cells (.list [.func (.func f) a b, .func (.func g) a' b']) false)).new (.cells (.list [.int .i64 x1, .int .i64 x2, .bool x3, .int .i64 x4, .int .i64 x5, .int .i64 x6]) false)).new (.cells (.list [.slice none 0 0, .int .i64 0]) false) := ⟨_, rfl⟩
 rw [← hS]
 have XS : Ext [] s S := by rw [hS]; exact Ext.new.trans' (Ext.new.trans' Ext.new)
 have nS : S.next = s.next + 3 := by rw [hS]; simp (maxDischargeDepth := 8) only [Nat.reduceAdd, z8, Nat.add_assoc]
 have hGS := XS.good hG
 have S0 : S.get s.next = some (.cells (.list [.func (.func f) a b, .func (.func g) a' b']) false) := by rw [hS]; simp (maxDischargeDepth := 8) only [sM, Nat.reduceAdd, z8, hG]
 have S1 : S.get (s.next + 1) = some (.cells (.list [.int .i64 x1, .int .i64 x2, .bool x3, .int .i64 x4, .int .i64 x5, .int .i64 x6]) false) := by rw [hS]; simp (maxDischargeDepth := 8) only [sM, Nat.reduceAdd, z8, hG]
 have S2 : S.get (s.next + 2) = some (.cells (.list [.slice none 0 0, .int .i64 0]) false) := by rw [hS]; simp (maxDischargeDepth := 8) only [sM, Nat.reduceAdd, z8, hG]
 have O : Xu S (s.next + 2) (.slice none 0 0) [] := ⟨S2, XS.wrs (hG _ (by omega)).2, by simpa [zI] using SlC.nil, by simp [blk], by simp⟩
 have hY : Same (s.next) s S := fun k hk => XS.get k hk (by simp)
 have hld : ldA 6 (.pointer (some ⟨s.next + 1, 0, none⟩)) S = some (.agg ⟨[.int .i64 x1, .int .i64 x2, .bool x3, .int .i64 x4, .int .i64 x5, .int .i64 x6]⟩) := by
  unfold ldA DS.read
  simp only [S1]
  rfl
 rw [show d + (n + 1) = (d + 1) + n by omega]
 refine W.mono (h4 (d + 1) S (s.next + 2) _ [] _ x (h2.keep XS (by simp)) (fun p hp => by have := h3 p hp; omega) O hGS (hst.mono _ _ _ _ _ (hst.stab _ _ _ _ _ hr hY) (by omega)) hok (by simpa using hlen)) ?_
 rintro ⟨v3, s3⟩ ⟨hv3, bv3, O3, X3, b3⟩
 simp only at hv3 O3 X3 b3
 subst hv3
 rw [List.nil_append] at O3
 have go3 := O3.go
 obtain ⟨w, hw1, hw2, hw3, hw4⟩ := Th hC (d := d + n) O3.sl hclip iclip
 rw [show (d + n) + 1 = (d + 1) + n by omega] at hw1
 simp only [sA, zb, zo, zm, Nat.reduceEqDiff, za, ze, Cells.get, getN, go3, hw1]
 have X4 : Ext [] s s3 := XS.trans X3 (by simp [blk])
 refine hQ _ ⟨w, rfl, hw2, hw3, fun k hk => ?_, X4⟩
 rw [hw4] at hk
 refine ⟨?_, O3.sl.lt k hk⟩
 have := O3.up k hk
 omega
theorem D6 (hG : s.Good) {m : Nat} (hm : m ≤ s.next) (hflag : E.fn 62 = some d62) (iflag : E.intr 62 = none) (htu : E.fn 100 = some d100) (itu : E.intr 100 = none)
 (ht : E.fn 124 = some d124) (it : E.intr 124 = none) (h1 : E.fn 101 = some d101) (i1 : E.intr 101 = none) (hf : ∀ d, zG (dcall E d)) :
 W (dcall E (d + 2) (.func (.func 62) #[] #[]) [] s) fun r => zz E 4 m r.2 r.1 P1 (fun _ => True) Qk ∧ Ext [] s r.2 := by
 refine zp fun Q hQ => ?_
 rw [zj iflag hflag rfl]
 simp (maxDischargeDepth := 8) only [sA, pp, d62, hG]
 obtain ⟨S, hS⟩ : ∃ S : DS, S = s.new (.cells (.list [.nilFunc, .nilFunc]) false) := ⟨_, rfl⟩
 rw [← hS]
 have XS : Ext [] s S := by rw [hS]; exact Ext.new
 have nS : S.next = s.next + 1 := by rw [hS]; simp (maxDischargeDepth := 8) only [z8]
 have hGS := XS.good hG
 have S0 : S.get s.next = some (.cells (.list [.nilFunc, .nilFunc]) false) := by rw [hS]; simp (maxDischargeDepth := 8) only [ZD, hG]
 have wS : S.wr s.next = true := XS.wrs (hG _ (Nat.le_refl _)).2
 clear hS
 refine W.mono (XL hC (d := d) hGS 1 1) ?_
 rintro ⟨v2, s2⟩ ⟨hv2, n1, n2, X2, hn2⟩
 simp only at hv2 n1 n2 X2 hn2
 subst hv2
 have hG2 := X2.good hGS
 have T0 := X2.keep S0 (by simp)
 have wT := X2.wrs wS
 rw [nS] at n1 n2 hn2 ⊢
 have hturn : ∀ f g : Value, W (dcall E (d + 1) (.func (.func 100) #[] #[]) [.agg ⟨[f, g]⟩, .func (.func 101) #[] #[], .func (.func 102) #[] #[]] s2) fun r => r.1 = .agg ⟨[.func (.func 124) #[] #[.pointer (some ⟨s2.next, 0, none⟩), .pointer (some ⟨s2.next + 1, 0, none⟩)], .func (.func 125) #[] #[.pointer (some ⟨s2.next + 2, 0, none⟩), .pointer (some ⟨s2.next, 0, none⟩)]]⟩ ∧
  r.2.get s2.next = some (.cells (.list [f, g]) false) ∧ r.2.get (s2.next + 1) = some (.cells (.list [.func (.func 101) #[] #[]]) false) ∧ Ext [] s2 r.2 ∧ r.2.next = s2.next + 4 := by
  intro f g
  refine zp fun Q hQ => ?_
  rw [zj itu htu rfl]
  simp (maxDischargeDepth := 8) only [sA, sM, zk, za, ze, Cells.get, getN, Nat.reduceAdd, zh, zg, Nat.reduceLeDiff, DS.wrC, Cells.size, Cells.fillFrom, Cells.set, zA, zi, pp, DS.read, Cells.take, Nat.reduceLT, d100, hG2]
  refine hQ _ ⟨rfl, ?_, ?_, ?_, ?_⟩
  · simp (maxDischargeDepth := 8) only [sA, sM, Nat.reduceAdd, hG2]
  · simp (maxDischargeDepth := 8) only [sA, sM, Nat.reduceAdd, Nat.reduceLT, hG2]
  · exact (Ext.new.trans' (Ext.new.trans' (Ext.new.trans' Ext.new))).trans (Ext.upd (F := [s2.next + 3]) (.inl (by simp))) (by simp)
  · simp (maxDischargeDepth := 8) only [sA, Nat.reduceAdd, Nat.add_assoc]
 simp only [sA]
 refine W.mono (hturn _ _) ?_
 rintro ⟨v3, s3⟩ ⟨hv3, m1, m2, X3, hn3⟩
 simp only at hv3 m1 m2 X3 hn3
 subst hv3
 have U0 := X3.keep T0 (by simp)
 have wU := X3.wrs wT
 have k1 := X3.keep n1 (by simp)
 have k2 := X3.keep n2 (by simp)
 simp only [sA, zk, za, ze, Cells.get, getN, Nat.reduceAdd, zh, zg, reduceCtorEq, DS.wrC, Cells.size, Cells.fillFrom, Cells.set, zA, DS.read, Cells.take, U0, wU]
 have X4 : ∀ o, Ext [] s (s3.upd s.next o) := fun o => (XS.trans' (X2.trans' X3)).trans (Ext.upd (F := [s.next]) (.inl (by simp))) (by simp)
 refine hQ _ ⟨⟨_, _, _, _, _, _, (s2.next, .cells (.list [.func (.func 120) #[] #[.pointer (some ⟨s.next + 1, 0, none⟩), .pointer (some ⟨s.next + 1 + 1, 0, none⟩)], .func (.func 122) #[] #[.pointer (some ⟨s.next + 1, 0, none⟩), .pointer (some ⟨s.next + 1 + 1, 0, none⟩)]]) false) :: (s2.next + 1, .cells (.list [.func (.func 101) #[] #[]]) false) :: [(s.next + 1, .cells (.list [.int .i64 ((1 : Nat) : Int)]) false), (s.next + 1 + 1, .cells (.list [.int .i64 1]) false)], rfl, ?_, ?_, Dz hC (QO hC (b1 := s.next + 1) (b2 := s.next + 1 + 1) (size := 1) (most := 1) (by omega)) (by omega) ht it h1 i1 hf⟩, X4 _⟩
 · intro p hp
   rcases List.mem_cons.1 hp with rfl | hp
   · simp (maxDischargeDepth := 8) only [sA, Nat.reduceAdd, Nat.add_assoc, m1, show ¬ s2.next = s.next by omega]
   · rcases List.mem_cons.1 hp with rfl | hp
     · simp (maxDischargeDepth := 8) only [sA, m2, show ¬ s2.next + 1 = s.next by omega]
     · rcases List.mem_cons.1 hp with rfl | hp
       · simp (maxDischargeDepth := 8) only [sA, k1, show ¬ s.next + 1 = s.next by omega]
         rfl
       · rcases List.mem_cons.1 hp with rfl | hp
         · simp (maxDischargeDepth := 8) only [sA, Nat.reduceAdd, Nat.add_assoc, k2, show ¬ s.next + 1 + 1 = s.next by omega]
         · cases hp
 · intro p hp
   have : m ≤ p.1 ∧ p.1 < s3.next := by
    rcases List.mem_cons.1 hp with rfl | hp
    · show m ≤ s2.next ∧ s2.next < s3.next; omega
    · rcases List.mem_cons.1 hp with rfl | hp
      · show m ≤ s2.next + 1 ∧ s2.next + 1 < s3.next; omega
      · rcases List.mem_cons.1 hp with rfl | hp
        · show m ≤ s.next + 1 ∧ s.next + 1 < s3.next; omega
        · rcases List.mem_cons.1 hp with rfl | hp
          · show m ≤ s.next + 1 + 1 ∧ s.next + 1 + 1 < s3.next; omega
          · cases hp
   simp (maxDischargeDepth := 8) only [DS.upd_next]
   exact this
end
end Go.Dx.TbA
