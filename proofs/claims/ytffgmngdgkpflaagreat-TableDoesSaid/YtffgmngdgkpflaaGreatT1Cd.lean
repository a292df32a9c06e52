/- A part. -/
import Derived.Test.YtffgmngdgkpflaaGreatDxTz
import Derived.Test.YtffgmngdgkpflaaGreatDxOut
set_option linter.unusedVariables false
set_option linter.unusedSimpArgs false
set_option linter.unusedSectionVars false
set_option maxRecDepth 100000
set_option maxHeartbeats 4000000
namespace Go.Dx.TbA
open Go Go.Dx Go.Proofs.YtffgmngdgkpflaaGreat
structure QE (E : Env) : Prop where
 fcput : E.fn 91 = some d91
 icput : E.intr 91 = none
 fclow : E.fn 113 = some d113
 iclow : E.intr 113 = none
 fnum : E.fn 78 = some d78
 inum : E.intr 78 = none
 fnum1 : E.fn 112 = some d112
 inum1 : E.intr 112 = none
 lf : 10000 ≤ E.lf
structure Em (s0 : DS) (N o : Nat) (x : Int) (size : Nat) (n : Nat) (y : St) : Prop where
 ex : ∃ j : Nat, n = size - j ∧ j ≤ size ∧ y.defers = [] ∧ (y.t.get 0 = some (.pointer (some ⟨o, 0, none⟩)) ∧ y.t.get 2 = some (.int .i64 x) ∧ y.t.get 3 = some (.int .i64 (size : Int)) ∧ y.t.get 8 = some (.pointer (some ⟨N, 0, none⟩)) ∧ y.t.get 22 = some (.int .i64 (size : Int)) ∧ y.t.get 23 = some (.int .i64 (j : Int))) ∧
  Ext [N] s0 y.s ∧ ∃ rest, y.s.get N = some (.cells (.list ((leB x j).map (fun n => .int .u8 n) ++ rest)) false) ∧ ((leB x j).map (fun n => Value.int .u8 n) ++ rest).length = 8
section
variable {E : Env} (hC : QE E) {s : DS} {o : Nat} {bv : Value} {bs cs : List Int} {d : Nat}
include hC
theorem SL (h : WG s o bv bs) (hG : s.Good) {y : Value} (hy : SlV s 1 y (zC cs)) (hlen : bs.length + cs.length ≤ 1048576) :
 W (dcall E (d + 1) (.func (.func 91) #[] #[]) [.pointer (some ⟨o, 0, none⟩), y] s) (Jy s o bv (bs ++ cs)) := by
 have go := h.go
 have wo := h.wo
 have hol := DS.get_lt' go
 obtain ⟨ab, cb, hbv⟩ := h.sl.shape
 rw [zt] at hbv
 have hyl : ∃ a c, y = .slice a cs.length c := by
  rcases hy with ⟨rfl, h0⟩ | ⟨b, off, sp, c, rfl, _⟩
  · have : cs = [] := by simpa [zC] using h0
    subst this
    exact ⟨none, 0, rfl⟩
  · exact ⟨_, c, by rw [zt]⟩
 obtain ⟨ya, yc, rfl⟩ := hyl
 have w1 : zf .i64 (1048576 - (bs.length : Int)) = 1048576 - (bs.length : Int) := zi (by omega) (by omega)
 have e1 : ¬ 1048576 - (bs.length : Int) < (cs.length : Int) := by omega
 refine zr fun Q hQ => ?_
 rw [zh hC.icput hC.fcput rfl]
 have hsl := h.sl
 subst hbv
 simp only [sA, zb, zl, zm, Nat.reduceEqDiff, Cells.get, getN, reduceCtorEq, pp, pv, d91, go, w1, e1]
 refine W.mono (VB hsl hy (ZK _) (ZK _) hG ?_ ?_) ?_
 · rw [zt, zt]; omega
 · rw [zt, zt]; omega
 rintro ⟨v1, s1⟩ ⟨h1, X1, b1, _⟩
 simp only at h1 X1 b1
 have ho : o ∉ blk (.slice ab bs.length cb) := fun hk => by have := h.up o hk; omega
 have go1 := X1.keep go ho
 have wo1 := X1.wrs wo
 obtain ⟨a1, c1, hv1⟩ := h1.shape
 have hl1 : (zC bs ++ zC cs).length = (bs ++ cs).length := by rw [List.length_append, zt, zt, List.length_append]
 rw [hl1] at hv1
 subst hv1
 simp only [sA, zb, Nat.reduceEqDiff, za, zd, Nat.reduceAdd, allOne, ze, Nat.reduceLeDiff, DS.wrC, Cells.size, Cells.fillFrom, Cells.set, zk, go1, wo1]
 have hup : ∀ k, k ∈ blk (.slice a1 (bs ++ cs).length c1) → o < k := fun k hk => by
  rcases b1 k hk with h2 | h2
  · exact h.up k h2
  · omega
 have X2 : ∀ ob, Ext [o] s1 (s1.upd o ob) := fun ob => Ext.upd (.inl (by simp))
 refine hQ _ ⟨rfl, .slice a1 (bs ++ cs).length c1, ⟨?_, ?_, ?_, hup, ?_⟩, ?_, b1⟩
 · simp only [sA, go1]
 · simp only [DS.upd_wr, wo1]
 · rw [JP]
   exact h1.keep (X2 _) fun k hk => by have := hup k hk; simp; omega
 · rw [List.length_append]; exact hlen
 · exact (X1.weaken (by intro k hk; exact .inl (List.mem_cons_of_mem _ hk))).trans' ((X2 _).weaken (by simp))
theorem SP (h : WG s o bv bs) (hG : s.Good) (x : Int) {size : Nat} (hs : size ≤ 8) (hlen : bs.length + size ≤ 1048576) :
 W (dcall E (d + 2) (.func (.func 113) #[] #[]) [.pointer (some ⟨o, 0, none⟩), .bool true, .int .i64 x, .int .i64 (size : Int)] s) (Jy s o bv (bs ++ leB x size)) := by
 have go := h.go
 have wo := h.wo
 have hol := DS.get_lt' go
 have hlf := hC.lf
 refine zr fun Q hQ => ?_
 rw [zh hC.iclow hC.fclow rfl]
 simp (maxDischargeDepth := 8) only [sA, sM, zb, zl, zm, Cells.get, getN, pp, pv, pw, pg, Nat.reduceLT, d113, go]
 obtain ⟨S, hS⟩ : ∃ S : DS, S = s.new (.cells (.list [.int .u8 0, .int .u8 0, .int .u8 0, .int .u8 0, .int .u8 0, .int .u8 0, .int .u8 0, .int .u8 0]) false) := ⟨_, rfl⟩
 rw [← hS]
 have XS : Ext [] s S := by rw [hS]; exact Ext.new
 have hGS := XS.good hG
 have gS : S.get s.next = some (.cells (.list [.int .u8 0, .int .u8 0, .int .u8 0, .int .u8 0, .int .u8 0, .int .u8 0, .int .u8 0, .int .u8 0]) false) := by rw [hS]; exact DS.new_get_self hG
 have wS : S.wr s.next = true := XS.wrs (hG _ (Nat.le_refl _)).2
 refine zY (Em S s.next o x size) size (by omega) ⟨0, rfl, Nat.zero_le _, rfl, ?_, .refl, _, by simpa [leB] using gS, by simp [leB]⟩ ?_
 · simp only [sA, Nat.reduceEqDiff, reduceCtorEq]
   rfl
 rintro n ⟨t, s2, ds⟩ hn ⟨j, rfl, hj, hds, ⟨g0, g2, g3, g8, g22, g23⟩, X2, rest, gN, hl8⟩
 simp only at hds g0 g2 g3 g8 g22 g23 X2 gN
 subst hds
 have wN := X2.wrs wS
 by_cases c1 : j < size
 · have e1 : (j : Int) < (size : Int) := by omega
   have w1 : zf .i64 ((j : Int) + 1) = ((j + 1 : Nat) : Int) := by rw [zi (by omega) (by omega)]; omega
   have w2 : zf .i64 (8 * (j : Int)) = ((8 * j : Nat) : Int) := by rw [zi (by omega) (by omega)]; omega
   have hsh : Zx .shr .u64 (zf .u64 x) ((8 * j : Nat) : Int) = some (.int .u64 ((zf .u64 x).fdiv (Int.ofNat (2 ^ (8 * j))))) := by
    unfold Zx
    rw [if_neg (by omega)]
    have e2 : Nat.ble (bitsOf .u64) ((8 * j : Nat) : Int).toNat = false := by rw [zD]; simp [bitsOf]; omega
    simp only [e2, z3, if_false]
    rfl
   have e8 : j < 8 := by omega
   have hlj : (leB x j).length = j := zB x j
   have hsize : j + 1 ≤ (leB x j).length + rest.length := by
    rw [List.length_append, List.length_map] at hl8; omega
   simp only [sA, zb, zl, zm, Nat.reduceEqDiff, allOne, ze, DS.wrC, Cells.size, Cells.fillFrom, Cells.set, g0, g2, g3, g8, g22, g23, e1, w1, w2, hsh, e8, gN, wN, List.length_map, hsize]
   have hset : ∃ r2, zk ((leB x j).map (fun n => Value.int .u8 n) ++ rest) j (.int .u8 (leI x j)) = (leB x (j + 1)).map (fun n => .int .u8 n) ++ r2 ∧ ((leB x (j + 1)).map (fun n => Value.int .u8 n) ++ r2).length = 8 := by
    refine ⟨rest.drop 1, ?_, ?_⟩
    · rw [Wf, List.set_append_right _ _ (by rw [List.length_map, hlj]; exact Nat.le_refl _), Ke, List.map_append, List.append_assoc]
      congr 1
      rw [List.length_map, hlj, Nat.sub_self]
      cases rest with
      | nil => simp at hsize; omega
      | cons a r => simp
    · rw [Ke]
      simp only [List.length_append, List.length_map, List.length_cons, List.length_nil, List.length_drop] at hl8 ⊢
      omega
   obtain ⟨r2, hr2, hl2⟩ := hset
   rw [show zf .u8 ((zf .u64 x).fdiv (Int.ofNat (2 ^ (8 * j)))) = leI x j from rfl, hr2]
   refine ⟨size - (j + 1), by omega, ⟨j + 1, rfl, by omega, rfl, by simp only [sA, Nat.reduceEqDiff, reduceCtorEq, g0, g2, g3, g8, g22, g23], X2.trans' (Ext.upd (.inl (by simp))), r2, ?_, hl2⟩⟩
   simp only [sA, gN]
 · obtain rfl : j = size := by omega
   have e1 : ¬ (j : Int) < (j : Int) := by omega
   have hbd : Zy 8 8 none (some (.int .i64 (j : Int))) none = some (0, j, 8) := by
    unfold Zy
    simp only [Zz, Nat.ble_eq.mpr hs, if_true]
   simp only [sA, zb, zl, zm, Nat.reduceEqDiff, reduceCtorEq, g0, g2, g3, g8, g22, g23, e1, hbd, ZU]
   have h2 : WG s2 o bv bs := by
    have X := XS.trans X2 (by simp)
    exact ⟨X.keep h.go (by simp), X.wrs h.wo, h.sl.keep X (by simp), h.up, h.len⟩
   have hv : SlV s2 1 (.slice (some ⟨s.next, 0, none⟩) j 8) (zC (leB x j)) := by
    refine .inr ⟨s.next, 0, none, 8, by rw [zt, zB], ?_⟩
    have hfl : (zC (leB x j)).flatten = (leB x j).map fun n => .int .u8 n := by
     have : ∀ l : List Int, (zC l).flatten = l.map fun n => .int .u8 n := fun l => by
      induction l with
      | nil => rfl
      | cons a l ih => unfold zC at ih ⊢; simp [ih]
     exact this _
    unfold DS.read
    rw [gN]
    simp only
    rw [zt, zB, Nat.mul_one, zQ _ _ _ (by omega), hfl]
    simp only [List.drop_zero]
    rw [List.take_append_of_le_length (by rw [List.length_map, zB]; exact Nat.le_refl _), List.take_of_length_le (by rw [List.length_map, zB]; exact Nat.le_refl _)]
   refine W.mono (SL hC h2 (X2.good hGS) hv (by rw [zB]; exact hlen)) ?_
   rintro ⟨v3, s3⟩ h3
   have hv3 := h3.val
   simp only at hv3
   subst hv3
   simp only [sA, za, zd]
   refine hQ _ ⟨rfl, ?_⟩
   have X := XS.trans X2 (F := []) (by simp)
   exact (Jy.next (X.weaken (by simp)) (fun k hk => .inl hk) h3).ex
def GV (_ : Nat) (_ : DS) (v : Value) (x : Int) : Prop := v = .int .i64 x
omit hC in
theorem Xt : ZQ GV := ⟨fun _ _ _ _ _ h _ => h, fun _ _ _ _ _ h _ => h⟩
def W2 (size : Nat) (most : Int) (x : Int) : Prop := size = 8 ∨ (0 ≤ x ∧ x ≤ most)
theorem J9 {b1 b2 size : Nat} {most : Int} (hs : size ≤ 8) :
 ZD E 3 (.func (.func 112) #[] #[.pointer (some ⟨b1, 0, none⟩), .pointer (some ⟨b2, 0, none⟩)]) [(b1, .cells (.list [.int .i64 (size : Int)]) false), (b2, .cells (.list [.int .i64 most]) false)] GV (W2 size most) (fun x => leB x size) := by
 intro d s o bv bs v x hD hb h hG hv hx hlen
 have hv : v = .int .i64 x := hv
 subst hv
 have g1 := hD _ (List.mem_cons_self ..)
 have g2 := hD (b2, _) (List.mem_cons_of_mem _ (List.mem_cons_self ..))
 simp only at g1 g2
 rw [zB] at hlen
 refine zr fun Q hQ => ?_
 rw [Zo hC.inum1 hC.fnum1 rfl]
 by_cases c1 : size = 8
 · subst c1
   have h8 : ((8 : Nat) : Int) = 8 := rfl
   rw [h8] at g1
   have hcl := SP (d := d) hC h hG x (size := 8) (Nat.le_refl _) hlen
   rw [h8] at hcl
   simp only [sA, zb, zl, zm, Nat.reduceEqDiff, Cells.get, getN, pp, pv, pw, pg, d112, g1, g2]
   refine W.mono hcl ?_
   rintro ⟨v3, s3⟩ h3
   simp only [sA, za, zd]
   exact hQ _ ⟨rfl, h3.ex⟩
 · have e1 : ¬ (size : Int) = 8 := by omega
   have hx : 0 ≤ x ∧ x ≤ most := by
    rcases hx with h | h
    · exact absurd h c1
    · exact h
   obtain ⟨e2, e3⟩ := hx
   simp only [sA, zb, zl, zm, Nat.reduceEqDiff, Cells.get, getN, pp, pv, pw, pg, d112, g1, g2, e1, e2, e3]
   refine W.mono (SP hC h hG x hs hlen) ?_
   rintro ⟨v3, s3⟩ h3
   simp only [sA, za, zd]
   exact hQ _ ⟨rfl, h3.ex⟩
theorem WK (hG : s.Good) (size most : Int) :
 W (dcall E (d + 1) (.func (.func 78) #[] #[]) [.int .i64 size, .int .i64 most] s) fun r => r.1 = .agg ⟨[.func (.func 112) #[] #[.pointer (some ⟨s.next, 0, none⟩), .pointer (some ⟨s.next + 1, 0, none⟩)], .func (.func 114) #[] #[.pointer (some ⟨s.next, 0, none⟩), .pointer (some ⟨s.next + 1, 0, none⟩)]]⟩ ∧
  r.2.get s.next = some (.cells (.list [.int .i64 size]) false) ∧ r.2.get (s.next + 1) = some (.cells (.list [.int .i64 most]) false) ∧ Ext [] s r.2 ∧ r.2.next = s.next + 3 := by
 refine zr fun Q hQ => ?_
 rw [zh hC.inum hC.fnum rfl]
 simp (maxDischargeDepth := 8) only [sA, sM, zo, za, zd, Cells.get, getN, Nat.reduceAdd, allOne, ze, Nat.reduceLeDiff, DS.wrC, Cells.size, Cells.fillFrom, Cells.set, zk, zg, pp, DS.read, Cells.take, Nat.reduceLT, d78, hG]
 refine hQ _ ⟨rfl, ?_, ?_, ?_, ?_⟩
 · simp (maxDischargeDepth := 8) only [sA, sM, Nat.reduceAdd, hG]
 · simp (maxDischargeDepth := 8) only [sA, sM, Nat.reduceAdd, hG]
 · exact (Ext.new.trans' (Ext.new.trans' Ext.new)).trans (Ext.upd (F := [s.next + 2]) (.inl (by simp))) (by simp)
 · simp (maxDischargeDepth := 8) only [sA, Nat.reduceAdd, Nat.add_assoc]
section
variable {α β : Type}
def XJ (Ra : Nat → DS → Value → α → Prop) (Rb : Nat → DS → Value → β → Prop) (o : Nat) (s : DS) (v : Value) (x : α × β) : Prop := ∃ a b : Value, v = .agg ⟨a.cells.toList ++ b.cells.toList⟩ ∧ Ra o s a x.1 ∧ Rb o s b x.2
omit hC in
theorem Jg {α β : Type} {Ra : Nat → DS → Value → α → Prop} {Rb : Nat → DS → Value → β → Prop} (ha : ZQ Ra) (hb : ZQ Rb) : ZQ (XJ Ra Rb) :=
 ⟨fun o s s' v x ⟨a, b, e, h1, h2⟩ hs => ⟨a, b, e, ha.stab _ _ _ _ _ h1 hs, hb.stab _ _ _ _ _ h2 hs⟩, fun o o' s v x ⟨a, b, e, h1, h2⟩ hs => ⟨a, b, e, ha.mono _ _ _ _ _ h1 hs, hb.mono _ _ _ _ _ h2 hs⟩⟩
end
theorem JR {f1 f2 : Nat} {fp fg gp gg : Value} {α β : Type} {n : Nat} {Df Dg : List (Nat × DObj)} {Ra : Nat → DS → Value → α → Prop} {Rb : Nat → DS → Value → β → Prop} {Oka : α → Prop} {Okb : β → Prop} {ea : α → List Int} {eb : β → List Int}
 (ha : ZD E n fp Df Ra Oka ea) (hb : ZD E n gp Dg Rb Okb eb) (sa : ZQ Ra) (sb : ZQ Rb) (ca : ∀ o s v x, Ra o s v x → (∃ n, v = .int .i64 n)) (cb : ∀ o s v x, Rb o s v x → (∃ n, v = .int .i64 n)) (hcode : E.fn 83 = some d83) (hintr : E.intr 83 = none) :
 ZD E (n + 1) (.func (.func 83) #[] #[.pointer (some ⟨f1, 0, none⟩), .pointer (some ⟨f2, 0, none⟩)]) ((f1, .cells (.list [fp, fg]) false) :: (f2, .cells (.list [gp, gg]) false) :: (Df ++ Dg)) (XJ Ra Rb) (fun x => Oka x.1 ∧ Okb x.2) (fun x => ea x.1 ++ eb x.2) := by
 intro d s o bv bs v x hD hb2 h hG hv hx hlen
 obtain ⟨a, b, rfl, hra, hrb⟩ := hv
 have g1 := hD _ (List.mem_cons_self ..)
 have g2 := hD (f2, _) (List.mem_cons_of_mem _ (List.mem_cons_self ..))
 have l1 := hb2 _ (List.mem_cons_self ..)
 have l2 := hb2 (f2, _) (List.mem_cons_of_mem _ (List.mem_cons_self ..))
 simp only at g1 g2 l1 l2
 have hDf : ZI s Df := hD.sub fun p hp => List.mem_cons_of_mem _ (List.mem_cons_of_mem _ (List.mem_append_left _ hp))
 have hDg : ZI s Dg := hD.sub fun p hp => List.mem_cons_of_mem _ (List.mem_cons_of_mem _ (List.mem_append_right _ hp))
 have lf : ∀ p, p ∈ Df → p.1 < o := fun p hp => hb2 p (List.mem_cons_of_mem _ (List.mem_cons_of_mem _ (List.mem_append_left _ hp)))
 have lg : ∀ p, p ∈ Dg → p.1 < o := fun p hp => hb2 p (List.mem_cons_of_mem _ (List.mem_cons_of_mem _ (List.mem_append_right _ hp)))
 have hol := DS.get_lt' h.go
 have l1s : f1 < s.next := Nat.lt_trans l1 hol
 have l2s : f2 < s.next := Nat.lt_trans l2 hol
 rw [List.length_append] at hlen
 have hca := ca _ _ _ _ hra
 have hcb := cb _ _ _ _ hrb
 refine zr fun Q hQ => ?_
 show W (dcall E ((d + n) + 1) _ _ _) Q
 rw [Zo hintr hcode rfl]
 obtain ⟨a, rfl⟩ := hca
 obtain ⟨b, rfl⟩ := hcb
 simp (maxDischargeDepth := 8) only [sA, sM, zb, Cells.get, getN, pp, pv, Nat.reduceLT, d83, g1, g2, hG, l1s, l2s]
 obtain ⟨S1, hS1⟩ : ∃ S1 : DS, S1 = s.new (.cells (.list [.int .i64 a, .int .i64 b]) false) := ⟨_, rfl⟩
 rw [← hS1]
 have X1 : ∀ F, Ext F s S1 := fun F => by rw [hS1]; exact Ext.new
 have gS : S1.get s.next = some (.cells (.list [.int .i64 a, .int .i64 b]) false) := by rw [hS1]; exact DS.new_get_self hG
 have Y1 : Same o s S1 := fun k hk => (X1 []).get k (Nat.lt_trans hk hol) (by simp)
 have O1 : WG S1 o bv bs := ⟨(X1 []).keep h.go (by simp), (X1 []).wrs h.wo, h.sl.keep (X1 []) (by simp), h.up, h.len⟩
 refine W.mono (ha d S1 o bv bs _ x.1 (hDf.keep (X1 []) (by simp)) lf O1 ((X1 []).good hG) (sa.stab _ _ _ _ _ hra Y1) hx.1 (by omega)) ?_
 rintro ⟨v2, s2⟩ ⟨hv2, bv2, O2, X2, b2⟩
 simp only at hv2 O2 X2 b2
 have Y2 := Wv O1 X2
 have YY := Y1.trans Y2
 have gS2 := X2.keep gS (by
  simp only [List.mem_cons, not_or]
  exact ⟨by omega, fun hk => by have := h.sl.lt _ hk; omega⟩)
 have g22 := (YY f2 l2).trans g2
 simp only [sA, zb, Nat.reduceEqDiff, Cells.get, getN, reduceCtorEq, gS2, g22]
 refine W.mono (hb d s2 o bv2 (bs ++ ea x.1) _ x.2 (hDg.same lg YY) lg O2 (X2.good ((X1 []).good hG)) (sb.stab _ _ _ _ _ hrb YY) hx.2 (by rw [List.length_append]; omega)) ?_
 rintro ⟨v3, s3⟩ h3
 have hv3 := h3.val
 simp only at hv3
 subst hv3
 have X12 : Ext (o :: blk bv) s s2 := (X1 _).trans' X2
 have h4 := Jy.next X12 (fun k hk => by
  rcases b2 k hk with h | h
  · exact .inl h
  · exact .inr (Nat.le_trans (X1 []).le h)) h3
 simp only [sA, za, zd]
 refine hQ _ ?_
 rw [← List.append_assoc]
 exact h4
theorem CP {f1 f2 : Nat} {fp fg gp gg : Value} {α β : Type} {n : Nat} {Df Dg : List (Nat × DObj)} {Ra : Nat → DS → Value → α → Prop} {Rb : Nat → DS → Value → β → Prop} {Oka : α → Prop} {Okb : β → Prop} {ea : α → List Int} {eb : β → List Int}
 (ha : ZD E n fp Df Ra Oka ea) (hb : ZD E n gp Dg Rb Okb eb) (sa : ZQ Ra) (sb : ZQ Rb) (ca : ∀ o s v x, Ra o s v x → (∃ n1 n2, v = .agg ⟨[.int .i64 n1, .int .i64 n2]⟩)) (cb : ∀ o s v x, Rb o s v x → (∃ n, v = .bool n)) (hcode : E.fn 121 = some d121) (hintr : E.intr 121 = none) :
 ZD E (n + 1) (.func (.func 121) #[] #[.pointer (some ⟨f1, 0, none⟩), .pointer (some ⟨f2, 0, none⟩)]) ((f1, .cells (.list [fp, fg]) false) :: (f2, .cells (.list [gp, gg]) false) :: (Df ++ Dg)) (XJ Ra Rb) (fun x => Oka x.1 ∧ Okb x.2) (fun x => ea x.1 ++ eb x.2) := by
 intro d s o bv bs v x hD hb2 h hG hv hx hlen
 obtain ⟨a, b, rfl, hra, hrb⟩ := hv
 have g1 := hD _ (List.mem_cons_self ..)
 have g2 := hD (f2, _) (List.mem_cons_of_mem _ (List.mem_cons_self ..))
 have l1 := hb2 _ (List.mem_cons_self ..)
 have l2 := hb2 (f2, _) (List.mem_cons_of_mem _ (List.mem_cons_self ..))
 simp only at g1 g2 l1 l2
 have hDf : ZI s Df := hD.sub fun p hp => List.mem_cons_of_mem _ (List.mem_cons_of_mem _ (List.mem_append_left _ hp))
 have hDg : ZI s Dg := hD.sub fun p hp => List.mem_cons_of_mem _ (List.mem_cons_of_mem _ (List.mem_append_right _ hp))
 have lf : ∀ p, p ∈ Df → p.1 < o := fun p hp => hb2 p (List.mem_cons_of_mem _ (List.mem_cons_of_mem _ (List.mem_append_left _ hp)))
 have lg : ∀ p, p ∈ Dg → p.1 < o := fun p hp => hb2 p (List.mem_cons_of_mem _ (List.mem_cons_of_mem _ (List.mem_append_right _ hp)))
 have hol := DS.get_lt' h.go
 have l1s : f1 < s.next := Nat.lt_trans l1 hol
 have l2s : f2 < s.next := Nat.lt_trans l2 hol
 rw [List.length_append] at hlen
 have hca := ca _ _ _ _ hra
 have hcb := cb _ _ _ _ hrb
 refine zr fun Q hQ => ?_
 show W (dcall E ((d + n) + 1) _ _ _) Q
 rw [Zo hintr hcode rfl]
 obtain ⟨a1, a2, rfl⟩ := hca
 obtain ⟨b, rfl⟩ := hcb
 simp (maxDischargeDepth := 8) only [sA, sM, zb, Cells.get, getN, pp, pv, ldA, DS.read, Cells.take, Nat.reduceLT, d121, g1, g2, hG, l1s, l2s]
 obtain ⟨S1, hS1⟩ : ∃ S1 : DS, S1 = s.new (.cells (.list [.int .i64 a1, .int .i64 a2, .bool b]) false) := ⟨_, rfl⟩
 rw [← hS1]
 have X1 : ∀ F, Ext F s S1 := fun F => by rw [hS1]; exact Ext.new
 have gS : S1.get s.next = some (.cells (.list [.int .i64 a1, .int .i64 a2, .bool b]) false) := by rw [hS1]; exact DS.new_get_self hG
 have Y1 : Same o s S1 := fun k hk => (X1 []).get k (Nat.lt_trans hk hol) (by simp)
 have O1 : WG S1 o bv bs := ⟨(X1 []).keep h.go (by simp), (X1 []).wrs h.wo, h.sl.keep (X1 []) (by simp), h.up, h.len⟩
 refine W.mono (ha d S1 o bv bs _ x.1 (hDf.keep (X1 []) (by simp)) lf O1 ((X1 []).good hG) (sa.stab _ _ _ _ _ hra Y1) hx.1 (by omega)) ?_
 rintro ⟨v2, s2⟩ ⟨hv2, bv2, O2, X2, b2⟩
 simp only at hv2 O2 X2 b2
 have Y2 := Wv O1 X2
 have YY := Y1.trans Y2
 have gS2 := X2.keep gS (by
  simp only [List.mem_cons, not_or]
  exact ⟨by omega, fun hk => by have := h.sl.lt _ hk; omega⟩)
 have g22 := (YY f2 l2).trans g2
 simp only [sA, zb, Nat.reduceEqDiff, Cells.get, getN, reduceCtorEq, gS2, g22]
 refine W.mono (hb d s2 o bv2 (bs ++ ea x.1) _ x.2 (hDg.same lg YY) lg O2 (X2.good ((X1 []).good hG)) (sb.stab _ _ _ _ _ hrb YY) hx.2 (by rw [List.length_append]; omega)) ?_
 rintro ⟨v3, s3⟩ h3
 have hv3 := h3.val
 simp only at hv3
 subst hv3
 have X12 : Ext (o :: blk bv) s s2 := (X1 _).trans' X2
 have h4 := Jy.next X12 (fun k hk => by
  rcases b2 k hk with h | h
  · exact .inl h
  · exact .inr (Nat.le_trans (X1 []).le h)) h3
 simp only [sA, za, zd]
 refine hQ _ ?_
 rw [← List.append_assoc]
 exact h4
theorem CN {f1 f2 : Nat} {fp fg gp gg : Value} {α β : Type} {n : Nat} {Df Dg : List (Nat × DObj)} {Ra : Nat → DS → Value → α → Prop} {Rb : Nat → DS → Value → β → Prop} {Oka : α → Prop} {Okb : β → Prop} {ea : α → List Int} {eb : β → List Int}
 (ha : ZD E n fp Df Ra Oka ea) (hb : ZD E n gp Dg Rb Okb eb) (sa : ZQ Ra) (sb : ZQ Rb) (ca : ∀ o s v x, Ra o s v x → (∃ n, v = .int .i64 n)) (cb : ∀ o s v x, Rb o s v x → (∃ n1 n2, v = .agg ⟨[.int .i64 n1, .int .i64 n2]⟩)) (hcode : E.fn 123 = some d123) (hintr : E.intr 123 = none) :
 ZD E (n + 1) (.func (.func 123) #[] #[.pointer (some ⟨f1, 0, none⟩), .pointer (some ⟨f2, 0, none⟩)]) ((f1, .cells (.list [fp, fg]) false) :: (f2, .cells (.list [gp, gg]) false) :: (Df ++ Dg)) (XJ Ra Rb) (fun x => Oka x.1 ∧ Okb x.2) (fun x => ea x.1 ++ eb x.2) := by
 intro d s o bv bs v x hD hb2 h hG hv hx hlen
 obtain ⟨a, b, rfl, hra, hrb⟩ := hv
 have g1 := hD _ (List.mem_cons_self ..)
 have g2 := hD (f2, _) (List.mem_cons_of_mem _ (List.mem_cons_self ..))
 have l1 := hb2 _ (List.mem_cons_self ..)
 have l2 := hb2 (f2, _) (List.mem_cons_of_mem _ (List.mem_cons_self ..))
 simp only at g1 g2 l1 l2
 have hDf : ZI s Df := hD.sub fun p hp => List.mem_cons_of_mem _ (List.mem_cons_of_mem _ (List.mem_append_left _ hp))
 have hDg : ZI s Dg := hD.sub fun p hp => List.mem_cons_of_mem _ (List.mem_cons_of_mem _ (List.mem_append_right _ hp))
 have lf : ∀ p, p ∈ Df → p.1 < o := fun p hp => hb2 p (List.mem_cons_of_mem _ (List.mem_cons_of_mem _ (List.mem_append_left _ hp)))
 have lg : ∀ p, p ∈ Dg → p.1 < o := fun p hp => hb2 p (List.mem_cons_of_mem _ (List.mem_cons_of_mem _ (List.mem_append_right _ hp)))
 have hol := DS.get_lt' h.go
 have l1s : f1 < s.next := Nat.lt_trans l1 hol
 have l2s : f2 < s.next := Nat.lt_trans l2 hol
 rw [List.length_append] at hlen
 have hca := ca _ _ _ _ hra
 have hcb := cb _ _ _ _ hrb
 refine zr fun Q hQ => ?_
 show W (dcall E ((d + n) + 1) _ _ _) Q
 rw [Zo hintr hcode rfl]
 obtain ⟨a, rfl⟩ := hca
 obtain ⟨b1, b2, rfl⟩ := hcb
 simp (maxDischargeDepth := 8) only [sA, sM, zb, Cells.get, getN, pp, pv, Nat.reduceLT, d123, g1, g2, hG, l1s, l2s]
 obtain ⟨S1, hS1⟩ : ∃ S1 : DS, S1 = s.new (.cells (.list [.int .i64 a, .int .i64 b1, .int .i64 b2]) false) := ⟨_, rfl⟩
 rw [← hS1]
 have X1 : ∀ F, Ext F s S1 := fun F => by rw [hS1]; exact Ext.new
 have gS : S1.get s.next = some (.cells (.list [.int .i64 a, .int .i64 b1, .int .i64 b2]) false) := by rw [hS1]; exact DS.new_get_self hG
 have Y1 : Same o s S1 := fun k hk => (X1 []).get k (Nat.lt_trans hk hol) (by simp)
 have O1 : WG S1 o bv bs := ⟨(X1 []).keep h.go (by simp), (X1 []).wrs h.wo, h.sl.keep (X1 []) (by simp), h.up, h.len⟩
 refine W.mono (ha d S1 o bv bs _ x.1 (hDf.keep (X1 []) (by simp)) lf O1 ((X1 []).good hG) (sa.stab _ _ _ _ _ hra Y1) hx.1 (by omega)) ?_
 rintro ⟨v2, s2⟩ ⟨hv2, bv2, O2, X2, b2⟩
 simp only at hv2 O2 X2 b2
 have Y2 := Wv O1 X2
 have YY := Y1.trans Y2
 have gS2 := X2.keep gS (by
  simp only [List.mem_cons, not_or]
  exact ⟨by omega, fun hk => by have := h.sl.lt _ hk; omega⟩)
 have g22 := (YY f2 l2).trans g2
 simp only [sA, zb, Nat.reduceEqDiff, Cells.get, getN, reduceCtorEq, ldA, DS.read, Cells.take, gS2, g22]
 refine W.mono (hb d s2 o bv2 (bs ++ ea x.1) _ x.2 (hDg.same lg YY) lg O2 (X2.good ((X1 []).good hG)) (sb.stab _ _ _ _ _ hrb YY) hx.2 (by rw [List.length_append]; omega)) ?_
 rintro ⟨v3, s3⟩ h3
 have hv3 := h3.val
 simp only at hv3
 subst hv3
 have X12 : Ext (o :: blk bv) s s2 := (X1 _).trans' X2
 have h4 := Jy.next X12 (fun k hk => by
  rcases b2 k hk with h | h
  · exact .inl h
  · exact .inr (Nat.le_trans (X1 []).le h)) h3
 simp only [sA, za, zd]
 refine hQ _ ?_
 rw [← List.append_assoc]
 exact h4
theorem CR {f1 f2 : Nat} {fp fg gp gg : Value} {α β : Type} {n : Nat} {Df Dg : List (Nat × DObj)} {Ra : Nat → DS → Value → α → Prop} {Rb : Nat → DS → Value → β → Prop} {Oka : α → Prop} {Okb : β → Prop} {ea : α → List Int} {eb : β → List Int}
 (ha : ZD E n fp Df Ra Oka ea) (hb : ZD E n gp Dg Rb Okb eb) (sa : ZQ Ra) (sb : ZQ Rb) (ca : ∀ o s v x, Ra o s v x → (∃ n1 n2 n3, v = .agg ⟨[.int .i64 n1, .int .i64 n2, .bool n3]⟩)) (cb : ∀ o s v x, Rb o s v x → (∃ n1 n2 n3, v = .agg ⟨[.int .i64 n1, .int .i64 n2, .int .i64 n3]⟩)) (hcode : E.fn 119 = some d119) (hintr : E.intr 119 = none) :
 ZD E (n + 1) (.func (.func 119) #[] #[.pointer (some ⟨f1, 0, none⟩), .pointer (some ⟨f2, 0, none⟩)]) ((f1, .cells (.list [fp, fg]) false) :: (f2, .cells (.list [gp, gg]) false) :: (Df ++ Dg)) (XJ Ra Rb) (fun x => Oka x.1 ∧ Okb x.2) (fun x => ea x.1 ++ eb x.2) := by
 intro d s o bv bs v x hD hb2 h hG hv hx hlen
 obtain ⟨a, b, rfl, hra, hrb⟩ := hv
 have g1 := hD _ (List.mem_cons_self ..)
 have g2 := hD (f2, _) (List.mem_cons_of_mem _ (List.mem_cons_self ..))
 have l1 := hb2 _ (List.mem_cons_self ..)
 have l2 := hb2 (f2, _) (List.mem_cons_of_mem _ (List.mem_cons_self ..))
 simp only at g1 g2 l1 l2
 have hDf : ZI s Df := hD.sub fun p hp => List.mem_cons_of_mem _ (List.mem_cons_of_mem _ (List.mem_append_left _ hp))
 have hDg : ZI s Dg := hD.sub fun p hp => List.mem_cons_of_mem _ (List.mem_cons_of_mem _ (List.mem_append_right _ hp))
 have lf : ∀ p, p ∈ Df → p.1 < o := fun p hp => hb2 p (List.mem_cons_of_mem _ (List.mem_cons_of_mem _ (List.mem_append_left _ hp)))
 have lg : ∀ p, p ∈ Dg → p.1 < o := fun p hp => hb2 p (List.mem_cons_of_mem _ (List.mem_cons_of_mem _ (List.mem_append_right _ hp)))
 have hol := DS.get_lt' h.go
 have l1s : f1 < s.next := Nat.lt_trans l1 hol
 have l2s : f2 < s.next := Nat.lt_trans l2 hol
 rw [List.length_append] at hlen
 have hca := ca _ _ _ _ hra
 have hcb := cb _ _ _ _ hrb
 refine zr fun Q hQ => ?_
 show W (dcall E ((d + n) + 1) _ _ _) Q
 rw [Zo hintr hcode rfl]
 obtain ⟨a1, a2, a3, rfl⟩ := hca
 obtain ⟨b1, b2, b3, rfl⟩ := hcb
 simp (maxDischargeDepth := 8) only [sA, sM, zb, Cells.get, getN, pp, pv, ldA, DS.read, Cells.take, Nat.reduceLT, d119, g1, g2, hG, l1s, l2s]
 obtain ⟨S1, hS1⟩ : ∃ S1 : DS, S1 = s.new (.cells (.list [.int .i64 a1, .int .i64 a2, .bool a3, .int .i64 b1, .int .i64 b2, .int .i64 b3]) false) := ⟨_, rfl⟩
 rw [← hS1]
 have X1 : ∀ F, Ext F s S1 := fun F => by rw [hS1]; exact Ext.new
 have gS : S1.get s.next = some (.cells (.list [.int .i64 a1, .int .i64 a2, .bool a3, .int .i64 b1, .int .i64 b2, .int .i64 b3]) false) := by rw [hS1]; exact DS.new_get_self hG
 have Y1 : Same o s S1 := fun k hk => (X1 []).get k (Nat.lt_trans hk hol) (by simp)
 have O1 : WG S1 o bv bs := ⟨(X1 []).keep h.go (by simp), (X1 []).wrs h.wo, h.sl.keep (X1 []) (by simp), h.up, h.len⟩
 refine W.mono (ha d S1 o bv bs _ x.1 (hDf.keep (X1 []) (by simp)) lf O1 ((X1 []).good hG) (sa.stab _ _ _ _ _ hra Y1) hx.1 (by omega)) ?_
 rintro ⟨v2, s2⟩ ⟨hv2, bv2, O2, X2, b2⟩
 simp only at hv2 O2 X2 b2
 have Y2 := Wv O1 X2
 have YY := Y1.trans Y2
 have gS2 := X2.keep gS (by
  simp only [List.mem_cons, not_or]
  exact ⟨by omega, fun hk => by have := h.sl.lt _ hk; omega⟩)
 have g22 := (YY f2 l2).trans g2
 simp only [sA, zb, Nat.reduceEqDiff, Cells.get, getN, reduceCtorEq, ldA, DS.read, Cells.take, gS2, g22]
 refine W.mono (hb d s2 o bv2 (bs ++ ea x.1) _ x.2 (hDg.same lg YY) lg O2 (X2.good ((X1 []).good hG)) (sb.stab _ _ _ _ _ hrb YY) hx.2 (by rw [List.length_append]; omega)) ?_
 rintro ⟨v3, s3⟩ h3
 have hv3 := h3.val
 simp only at hv3
 subst hv3
 have X12 : Ext (o :: blk bv) s s2 := (X1 _).trans' X2
 have h4 := Jy.next X12 (fun k hk => by
  rcases b2 k hk with h | h
  · exact .inl h
  · exact .inr (Nat.le_trans (X1 []).le h)) h3
 simp only [sA, za, zd]
 refine hQ _ ?_
 rw [← List.append_assoc]
 exact h4
def PH (_ : Nat) (_ : DS) (v : Value) (x : Bool) : Prop := v = .bool x
omit hC in
theorem Vq : ZQ PH := ⟨fun _ _ _ _ _ h _ => h, fun _ _ _ _ _ h _ => h⟩
def CU (b : Bool) : Int := if b then 1 else 0
def Xp (b : Bool) : List Int := leB (CU b) 1
theorem Nr {s : DS} (h : E.fn 88 = some d88) (i : E.intr 88 = none) (b : Bool) : dcall E (d + 1) (.func (.func 88) #[] #[]) [.bool b] s = some (.int .i64 (CU b), s) := by
 rw [← JH, zh i h rfl]
 cases b
 · simp only [sA, za, zd, reduceCtorEq, pp, pv, d88]
   rfl
 · simp only [sA, za, zd, reduceCtorEq, pp, pv, d88]
   rfl
theorem Td {f1 t1 : Nat} {fp fg : Value} {n : Nat} {D : List (Nat × DObj)} (ha : ZD E n fp D GV (W2 1 1) (fun x => leB x 1)) (hn : 1 ≤ n)
 (ht : E.fn 116 = some d116) (it : E.intr 116 = none) (h1 : E.fn 88 = some d88) (i1 : E.intr 88 = none) (hf : ∀ d, zG (dcall E d)) :
 ZD E (n + 1) (.func (.func 116) #[] #[.pointer (some ⟨f1, 0, none⟩), .pointer (some ⟨t1, 0, none⟩)]) ((f1, .cells (.list [fp, fg]) false) :: (t1, .cells (.list [.func (.func 88) #[] #[]]) false) :: D) PH (fun _ => True) Xp := by
 intro d s o bv bs v x hD hb2 h hG hv hx hlen
 have hv : v = .bool x := hv
 subst hv
 have g1 := hD _ (List.mem_cons_self ..)
 have g2 := hD (t1, _) (List.mem_cons_of_mem _ (List.mem_cons_self ..))
 simp only at g1 g2
 have hDf : ZI s D := hD.sub fun p hp => List.mem_cons_of_mem _ (List.mem_cons_of_mem _ hp)
 have lf : ∀ p, p ∈ D → p.1 < o := fun p hp => hb2 p (List.mem_cons_of_mem _ (List.mem_cons_of_mem _ hp))
 refine zr fun Q hQ => ?_
 obtain ⟨n, rfl⟩ : ∃ n', n = n' + 1 := ⟨n - 1, by omega⟩
 show W (dcall E ((d + n + 1) + 1) _ _ _) Q
 rw [Zo it ht rfl]
 have hfl : ∀ s, dcall E (d + n + 1) (.func (.func 88) #[] #[]) [.bool x] s = some (.int .i64 (CU x), s) := fun s => Nr hC h1 i1 x
 simp only [sA, zb, Nat.reduceEqDiff, Cells.get, getN, reduceCtorEq, foot, d116, g1, g2, hfl]
 refine W.mono (ha d s o bv bs _ (CU x) hDf lf h hG rfl (.inr (by cases x <;> simp [CU])) hlen) ?_
 rintro ⟨v3, s3⟩ h3
 have hv3 := h3.val
 simp only at hv3
 subst hv3
 simp only [sA, za, zd]
 exact hQ _ ⟨rfl, h3.ex⟩
theorem Qy {α β : Type} {n m : Nat} (hm : m ≤ s.next) {va vb : Value} {Ra : Nat → DS → Value → α → Prop} {Rb : Nat → DS → Value → β → Prop} {Oka : α → Prop} {Okb : β → Prop} {ea : α → List Int} {eb : β → List Int}
 (hG : s.Good) (ha : zE E n m s va Ra Oka ea) (hb : zE E n m s vb Rb Okb eb) (hcode : E.fn 48 = some d48) (hintr : E.intr 48 = none)
 (hput : ∀ {f1 f2 : Nat} {fp fg gp gg : Value} {Df Dg : List (Nat × DObj)}, ZD E n fp Df Ra Oka ea → ZD E n gp Dg Rb Okb eb → ZD E (n + 1) (.func (.func 83) #[] #[.pointer (some ⟨f1, 0, none⟩), .pointer (some ⟨f2, 0, none⟩)]) ((f1, .cells (.list [fp, fg]) false) :: (f2, .cells (.list [gp, gg]) false) :: (Df ++ Dg)) (XJ Ra Rb) (fun x => Oka x.1 ∧ Okb x.2) (fun x => ea x.1 ++ eb x.2)) :
 W (dcall E (d + 1) (.func (.func 48) #[] #[]) [va, vb] s) fun r => zE E (n + 1) m r.2 r.1 (XJ Ra Rb) (fun x => Oka x.1 ∧ Okb x.2) (fun x => ea x.1 ++ eb x.2) ∧ Ext [] s r.2 := by
 obtain ⟨f1, a1, b1, g1, p1, q1, D1, rfl, h2, h3, h4⟩ := ha
 obtain ⟨f2, a2, b2, g2, p2, q2, D2, rfl, k2, k3, k4⟩ := hb
 refine zr fun Q hQ => ?_
 rw [zh hintr hcode rfl]
 simp (maxDischargeDepth := 8) only [sA, sM, zb, zo, zJ, za, zd, Cells.get, getN, Nat.reduceAdd, allOne, ze, Nat.reduceLeDiff, DS.wrC, Cells.size, Cells.fillFrom, Cells.set, zk, zg, pp, pv, pg, DS.read, Cells.take, Nat.reduceLT, d48, hG]
 have X : ∀ o1 o2 o3 o4, Ext [] s ((((s.new o1).new o2).new o3).upd (s.next + 2) o4) := fun _ _ _ _ => (Ext.new.trans' (Ext.new.trans' Ext.new)).trans (Ext.upd (F := [s.next + 2]) (.inl (by simp))) (by simp)
 refine hQ _ ⟨⟨_, _, _, _, _, _, _, rfl, ?_, ?_, hput (f1 := s.next) (f2 := s.next + 1) (fg := .func (.func g1) p1 q1) (gg := .func (.func g2) p2 q2) h4 k4⟩, X _ _ _ _⟩
 · intro p hp
   rcases List.mem_cons.1 hp with rfl | hp
   · simp (maxDischargeDepth := 8) only [sA, sM, Nat.reduceAdd, hG]
   · rcases List.mem_cons.1 hp with rfl | hp
     · simp (maxDischargeDepth := 8) only [sA, sM, Nat.reduceAdd, hG]
     · rcases List.mem_append.1 hp with hp | hp
       · exact (X _ _ _ _).keep (h2 p hp) (by simp)
       · exact (X _ _ _ _).keep (k2 p hp) (by simp)
 · intro p hp
   have hn : ∀ o1 o2 o3 o4, ((((s.new o1).new o2).new o3).upd (s.next + 2) o4).next = s.next + 3 := fun _ _ _ _ => by simp (maxDischargeDepth := 8) only [sA, Nat.reduceAdd, Nat.add_assoc]
   rw [hn]
   rcases List.mem_cons.1 hp with rfl | hp
   · show m ≤ s.next ∧ s.next < s.next + 3; omega
   · rcases List.mem_cons.1 hp with rfl | hp
     · show m ≤ s.next + 1 ∧ s.next + 1 < s.next + 3; omega
     · rcases List.mem_append.1 hp with hp | hp
       · have := h3 p hp; omega
       · have := k3 p hp; omega
theorem Fb {α β : Type} {n m : Nat} (hm : m ≤ s.next) {va vb : Value} {Ra : Nat → DS → Value → α → Prop} {Rb : Nat → DS → Value → β → Prop} {Oka : α → Prop} {Okb : β → Prop} {ea : α → List Int} {eb : β → List Int}
 (hG : s.Good) (ha : zE E n m s va Ra Oka ea) (hb : zE E n m s vb Rb Okb eb) (hcode : E.fn 102 = some d102) (hintr : E.intr 102 = none)
 (hput : ∀ {f1 f2 : Nat} {fp fg gp gg : Value} {Df Dg : List (Nat × DObj)}, ZD E n fp Df Ra Oka ea → ZD E n gp Dg Rb Okb eb → ZD E (n + 1) (.func (.func 121) #[] #[.pointer (some ⟨f1, 0, none⟩), .pointer (some ⟨f2, 0, none⟩)]) ((f1, .cells (.list [fp, fg]) false) :: (f2, .cells (.list [gp, gg]) false) :: (Df ++ Dg)) (XJ Ra Rb) (fun x => Oka x.1 ∧ Okb x.2) (fun x => ea x.1 ++ eb x.2)) :
 W (dcall E (d + 1) (.func (.func 102) #[] #[]) [va, vb] s) fun r => zE E (n + 1) m r.2 r.1 (XJ Ra Rb) (fun x => Oka x.1 ∧ Okb x.2) (fun x => ea x.1 ++ eb x.2) ∧ Ext [] s r.2 := by
 obtain ⟨f1, a1, b1, g1, p1, q1, D1, rfl, h2, h3, h4⟩ := ha
 obtain ⟨f2, a2, b2, g2, p2, q2, D2, rfl, k2, k3, k4⟩ := hb
 refine zr fun Q hQ => ?_
 rw [zh hintr hcode rfl]
 simp (maxDischargeDepth := 8) only [sA, sM, zb, zo, zJ, za, zd, Cells.get, getN, Nat.reduceAdd, allOne, ze, Nat.reduceLeDiff, DS.wrC, Cells.size, Cells.fillFrom, Cells.set, zk, zg, pp, pv, pg, DS.read, Cells.take, Nat.reduceLT, d102, hG]
 have X : ∀ o1 o2 o3 o4, Ext [] s ((((s.new o1).new o2).new o3).upd (s.next + 2) o4) := fun _ _ _ _ => (Ext.new.trans' (Ext.new.trans' Ext.new)).trans (Ext.upd (F := [s.next + 2]) (.inl (by simp))) (by simp)
 refine hQ _ ⟨⟨_, _, _, _, _, _, _, rfl, ?_, ?_, hput (f1 := s.next) (f2 := s.next + 1) (fg := .func (.func g1) p1 q1) (gg := .func (.func g2) p2 q2) h4 k4⟩, X _ _ _ _⟩
 · intro p hp
   rcases List.mem_cons.1 hp with rfl | hp
   · simp (maxDischargeDepth := 8) only [sA, sM, Nat.reduceAdd, hG]
   · rcases List.mem_cons.1 hp with rfl | hp
     · simp (maxDischargeDepth := 8) only [sA, sM, Nat.reduceAdd, hG]
     · rcases List.mem_append.1 hp with hp | hp
       · exact (X _ _ _ _).keep (h2 p hp) (by simp)
       · exact (X _ _ _ _).keep (k2 p hp) (by simp)
 · intro p hp
   have hn : ∀ o1 o2 o3 o4, ((((s.new o1).new o2).new o3).upd (s.next + 2) o4).next = s.next + 3 := fun _ _ _ _ => by simp (maxDischargeDepth := 8) only [sA, Nat.reduceAdd, Nat.add_assoc]
   rw [hn]
   rcases List.mem_cons.1 hp with rfl | hp
   · show m ≤ s.next ∧ s.next < s.next + 3; omega
   · rcases List.mem_cons.1 hp with rfl | hp
     · show m ≤ s.next + 1 ∧ s.next + 1 < s.next + 3; omega
     · rcases List.mem_append.1 hp with hp | hp
       · have := h3 p hp; omega
       · have := k3 p hp; omega
theorem Fa {α β : Type} {n m : Nat} (hm : m ≤ s.next) {va vb : Value} {Ra : Nat → DS → Value → α → Prop} {Rb : Nat → DS → Value → β → Prop} {Oka : α → Prop} {Okb : β → Prop} {ea : α → List Int} {eb : β → List Int}
 (hG : s.Good) (ha : zE E n m s va Ra Oka ea) (hb : zE E n m s vb Rb Okb eb) (hcode : E.fn 103 = some d103) (hintr : E.intr 103 = none)
 (hput : ∀ {f1 f2 : Nat} {fp fg gp gg : Value} {Df Dg : List (Nat × DObj)}, ZD E n fp Df Ra Oka ea → ZD E n gp Dg Rb Okb eb → ZD E (n + 1) (.func (.func 123) #[] #[.pointer (some ⟨f1, 0, none⟩), .pointer (some ⟨f2, 0, none⟩)]) ((f1, .cells (.list [fp, fg]) false) :: (f2, .cells (.list [gp, gg]) false) :: (Df ++ Dg)) (XJ Ra Rb) (fun x => Oka x.1 ∧ Okb x.2) (fun x => ea x.1 ++ eb x.2)) :
 W (dcall E (d + 1) (.func (.func 103) #[] #[]) [va, vb] s) fun r => zE E (n + 1) m r.2 r.1 (XJ Ra Rb) (fun x => Oka x.1 ∧ Okb x.2) (fun x => ea x.1 ++ eb x.2) ∧ Ext [] s r.2 := by
 obtain ⟨f1, a1, b1, g1, p1, q1, D1, rfl, h2, h3, h4⟩ := ha
 obtain ⟨f2, a2, b2, g2, p2, q2, D2, rfl, k2, k3, k4⟩ := hb
 refine zr fun Q hQ => ?_
 rw [zh hintr hcode rfl]
 simp (maxDischargeDepth := 8) only [sA, sM, zb, zo, zJ, za, zd, Cells.get, getN, Nat.reduceAdd, allOne, ze, Nat.reduceLeDiff, DS.wrC, Cells.size, Cells.fillFrom, Cells.set, zk, zg, pp, pv, pg, DS.read, Cells.take, Nat.reduceLT, d103, hG]
 have X : ∀ o1 o2 o3 o4, Ext [] s ((((s.new o1).new o2).new o3).upd (s.next + 2) o4) := fun _ _ _ _ => (Ext.new.trans' (Ext.new.trans' Ext.new)).trans (Ext.upd (F := [s.next + 2]) (.inl (by simp))) (by simp)
 refine hQ _ ⟨⟨_, _, _, _, _, _, _, rfl, ?_, ?_, hput (f1 := s.next) (f2 := s.next + 1) (fg := .func (.func g1) p1 q1) (gg := .func (.func g2) p2 q2) h4 k4⟩, X _ _ _ _⟩
 · intro p hp
   rcases List.mem_cons.1 hp with rfl | hp
   · simp (maxDischargeDepth := 8) only [sA, sM, Nat.reduceAdd, hG]
   · rcases List.mem_cons.1 hp with rfl | hp
     · simp (maxDischargeDepth := 8) only [sA, sM, Nat.reduceAdd, hG]
     · rcases List.mem_append.1 hp with hp | hp
       · exact (X _ _ _ _).keep (h2 p hp) (by simp)
       · exact (X _ _ _ _).keep (k2 p hp) (by simp)
 · intro p hp
   have hn : ∀ o1 o2 o3 o4, ((((s.new o1).new o2).new o3).upd (s.next + 2) o4).next = s.next + 3 := fun _ _ _ _ => by simp (maxDischargeDepth := 8) only [sA, Nat.reduceAdd, Nat.add_assoc]
   rw [hn]
   rcases List.mem_cons.1 hp with rfl | hp
   · show m ≤ s.next ∧ s.next < s.next + 3; omega
   · rcases List.mem_cons.1 hp with rfl | hp
     · show m ≤ s.next + 1 ∧ s.next + 1 < s.next + 3; omega
     · rcases List.mem_append.1 hp with hp | hp
       · have := h3 p hp; omega
       · have := k3 p hp; omega
theorem Fc {α β : Type} {n m : Nat} (hm : m ≤ s.next) {va vb : Value} {Ra : Nat → DS → Value → α → Prop} {Rb : Nat → DS → Value → β → Prop} {Oka : α → Prop} {Okb : β → Prop} {ea : α → List Int} {eb : β → List Int}
 (hG : s.Good) (ha : zE E n m s va Ra Oka ea) (hb : zE E n m s vb Rb Okb eb) (hcode : E.fn 101 = some d101) (hintr : E.intr 101 = none)
 (hput : ∀ {f1 f2 : Nat} {fp fg gp gg : Value} {Df Dg : List (Nat × DObj)}, ZD E n fp Df Ra Oka ea → ZD E n gp Dg Rb Okb eb → ZD E (n + 1) (.func (.func 119) #[] #[.pointer (some ⟨f1, 0, none⟩), .pointer (some ⟨f2, 0, none⟩)]) ((f1, .cells (.list [fp, fg]) false) :: (f2, .cells (.list [gp, gg]) false) :: (Df ++ Dg)) (XJ Ra Rb) (fun x => Oka x.1 ∧ Okb x.2) (fun x => ea x.1 ++ eb x.2)) :
 W (dcall E (d + 1) (.func (.func 101) #[] #[]) [va, vb] s) fun r => zE E (n + 1) m r.2 r.1 (XJ Ra Rb) (fun x => Oka x.1 ∧ Okb x.2) (fun x => ea x.1 ++ eb x.2) ∧ Ext [] s r.2 := by
 obtain ⟨f1, a1, b1, g1, p1, q1, D1, rfl, h2, h3, h4⟩ := ha
 obtain ⟨f2, a2, b2, g2, p2, q2, D2, rfl, k2, k3, k4⟩ := hb
 refine zr fun Q hQ => ?_
 rw [zh hintr hcode rfl]
 simp (maxDischargeDepth := 8) only [sA, sM, zb, zo, zJ, za, zd, Cells.get, getN, Nat.reduceAdd, allOne, ze, Nat.reduceLeDiff, DS.wrC, Cells.size, Cells.fillFrom, Cells.set, zk, zg, pp, pv, pg, DS.read, Cells.take, Nat.reduceLT, d101, hG]
 have X : ∀ o1 o2 o3 o4, Ext [] s ((((s.new o1).new o2).new o3).upd (s.next + 2) o4) := fun _ _ _ _ => (Ext.new.trans' (Ext.new.trans' Ext.new)).trans (Ext.upd (F := [s.next + 2]) (.inl (by simp))) (by simp)
 refine hQ _ ⟨⟨_, _, _, _, _, _, _, rfl, ?_, ?_, hput (f1 := s.next) (f2 := s.next + 1) (fg := .func (.func g1) p1 q1) (gg := .func (.func g2) p2 q2) h4 k4⟩, X _ _ _ _⟩
 · intro p hp
   rcases List.mem_cons.1 hp with rfl | hp
   · simp (maxDischargeDepth := 8) only [sA, sM, Nat.reduceAdd, hG]
   · rcases List.mem_cons.1 hp with rfl | hp
     · simp (maxDischargeDepth := 8) only [sA, sM, Nat.reduceAdd, hG]
     · rcases List.mem_append.1 hp with hp | hp
       · exact (X _ _ _ _).keep (h2 p hp) (by simp)
       · exact (X _ _ _ _).keep (k2 p hp) (by simp)
 · intro p hp
   have hn : ∀ o1 o2 o3 o4, ((((s.new o1).new o2).new o3).upd (s.next + 2) o4).next = s.next + 3 := fun _ _ _ _ => by simp (maxDischargeDepth := 8) only [sA, Nat.reduceAdd, Nat.add_assoc]
   rw [hn]
   rcases List.mem_cons.1 hp with rfl | hp
   · show m ≤ s.next ∧ s.next < s.next + 3; omega
   · rcases List.mem_cons.1 hp with rfl | hp
     · show m ≤ s.next + 1 ∧ s.next + 1 < s.next + 3; omega
     · rcases List.mem_append.1 hp with hp | hp
       · have := h3 p hp; omega
       · have := k3 p hp; omega
theorem QZ (hG : s.Good) {m : Nat} (hm : m ≤ s.next) (hcode : E.fn 49 = some d49) (hintr : E.intr 49 = none) :
 W (dcall E (d + 2) (.func (.func 49) #[] #[]) [] s) fun r => zE E 3 m r.2 r.1 GV (W2 1 255) (fun x => leB x 1) ∧ Ext [] s r.2 := by
 refine zr fun Q hQ => ?_
 rw [zh hintr hcode rfl]
 simp (maxDischargeDepth := 8) only [sA, pp, d49, hG]
 refine W.mono (WK hC (DS.new_good hG) _ _) ?_
 rintro ⟨v2, s2⟩ ⟨hv2, n1, n2, X2, hn2⟩
 simp only [DS.new_next] at hv2 n1 n2 X2 hn2
 subst hv2
 have T0 := X2.keep (DS.new_get_self (o := .cells (.list [.nilFunc, .nilFunc]) false) hG) (by simp)
 have wT := X2.wrs (show (s.new (.cells (.list [.nilFunc, .nilFunc]) false)).wr s.next = true from (hG _ (Nat.le_refl _)).2)
 simp (maxDischargeDepth := 8) only [sA, sM, zo, za, zd, Cells.get, getN, Nat.reduceAdd, allOne, ze, DS.wrC, Cells.size, Cells.fillFrom, Cells.set, zk, DS.read, Cells.take, T0, wT]
 have X3 : ∀ o, Ext [] s (s2.upd s.next o) := fun o => (Ext.new.trans' X2).trans (Ext.upd (F := [s.next]) (.inl (by simp))) (by simp)
 refine hQ _ ⟨⟨_, _, _, _, _, _, [(s.next + 1, .cells (.list [.int .i64 ((1 : Nat) : Int)]) false), (s.next + 2, .cells (.list [.int .i64 255]) false)], rfl, ?_, ?_, J9 hC (by omega)⟩, X3 _⟩
 · intro p hp
   rcases List.mem_cons.1 hp with rfl | hp
   · simp (maxDischargeDepth := 8) only [sA, n1, show ¬ s.next + 1 = s.next by omega]
     rfl
   · rcases List.mem_cons.1 hp with rfl | hp
     · simp (maxDischargeDepth := 8) only [sA, n2, show ¬ s.next + 2 = s.next by omega]
     · cases hp
 · intro p hp
   have : m ≤ p.1 ∧ p.1 < s2.next := by
    rcases List.mem_cons.1 hp with rfl | hp
    · show m ≤ s.next + 1 ∧ s.next + 1 < s2.next; omega
    · rcases List.mem_cons.1 hp with rfl | hp
      · show m ≤ s.next + 2 ∧ s.next + 2 < s2.next; omega
      · cases hp
   simp (maxDischargeDepth := 8) only [DS.upd_next]
   exact this
theorem Wy (hG : s.Good) {m : Nat} (hm : m ≤ s.next) (hcode : E.fn 50 = some d50) (hintr : E.intr 50 = none) :
 W (dcall E (d + 2) (.func (.func 50) #[] #[]) [] s) fun r => zE E 3 m r.2 r.1 GV (W2 8 0) (fun x => leB x 8) ∧ Ext [] s r.2 := by
 refine zr fun Q hQ => ?_
 rw [zh hintr hcode rfl]
 simp (maxDischargeDepth := 8) only [sA, pp, d50, hG]
 refine W.mono (WK hC (DS.new_good hG) _ _) ?_
 rintro ⟨v2, s2⟩ ⟨hv2, n1, n2, X2, hn2⟩
 simp only [DS.new_next] at hv2 n1 n2 X2 hn2
 subst hv2
 have T0 := X2.keep (DS.new_get_self (o := .cells (.list [.nilFunc, .nilFunc]) false) hG) (by simp)
 have wT := X2.wrs (show (s.new (.cells (.list [.nilFunc, .nilFunc]) false)).wr s.next = true from (hG _ (Nat.le_refl _)).2)
 simp (maxDischargeDepth := 8) only [sA, sM, zo, za, zd, Cells.get, getN, Nat.reduceAdd, allOne, ze, DS.wrC, Cells.size, Cells.fillFrom, Cells.set, zk, DS.read, Cells.take, T0, wT]
 have X3 : ∀ o, Ext [] s (s2.upd s.next o) := fun o => (Ext.new.trans' X2).trans (Ext.upd (F := [s.next]) (.inl (by simp))) (by simp)
 refine hQ _ ⟨⟨_, _, _, _, _, _, [(s.next + 1, .cells (.list [.int .i64 ((8 : Nat) : Int)]) false), (s.next + 2, .cells (.list [.int .i64 0]) false)], rfl, ?_, ?_, J9 hC (by omega)⟩, X3 _⟩
 · intro p hp
   rcases List.mem_cons.1 hp with rfl | hp
   · simp (maxDischargeDepth := 8) only [sA, n1, show ¬ s.next + 1 = s.next by omega]
     rfl
   · rcases List.mem_cons.1 hp with rfl | hp
     · simp (maxDischargeDepth := 8) only [sA, n2, show ¬ s.next + 2 = s.next by omega]
     · cases hp
 · intro p hp
   have : m ≤ p.1 ∧ p.1 < s2.next := by
    rcases List.mem_cons.1 hp with rfl | hp
    · show m ≤ s.next + 1 ∧ s.next + 1 < s2.next; omega
    · rcases List.mem_cons.1 hp with rfl | hp
      · show m ≤ s.next + 2 ∧ s.next + 2 < s2.next; omega
      · cases hp
   simp (maxDischargeDepth := 8) only [DS.upd_next]
   exact this
theorem SQ {v : Value} {l : List Int} (h : SlC s 1 v (zC l)) (hcode : E.fn 67 = some d67) (hintr : E.intr 67 = none) :
 ∃ w, dcall E (d + 1) (.func (.func 67) #[] #[]) [v] s = some (w, s) ∧ SlV s 1 w (zC l) ∧ (∃ a, w = .slice a l.length l.length ∧ ∀ x, a = some x → x.spot = none) ∧ blk w = blk v := by
 obtain ⟨a, c, hv, hc⟩ := h.shape'
 have hvw := h.view (ZK l)
 rw [zt] at hv hc
 have e1 : Nat.ble l.length c = true := Nat.ble_eq.mpr hc
 have e2 : Nat.ble l.length l.length = true := Nat.ble_eq.mpr (Nat.le_refl _)
 have key : ∀ w, slV 1 v none (some (.int .i64 (l.length : Int))) (some (.int .i64 (l.length : Int))) = some w → dcall E (d + 1) (.func (.func 67) #[] #[]) [v] s = some (w, s) := by
  intro w hw
  rw [← JH, zh hintr hcode rfl]
  subst hv
  simp only [sA, zb, Nat.reduceEqDiff, za, zd, reduceCtorEq, pp, pv, d67, hw]
 rcases hvw with ⟨h1, h2⟩ | ⟨b, off, sp, c', h1, h2⟩
 · have hl : l = [] := by simpa [zC] using h2
   subst hl
   rw [h1] at hv
   cases hv
   exact ⟨.slice none 0 0, key _ (by subst h1; rfl), .inl ⟨rfl, rfl⟩, ⟨none, rfl, fun _ h => (nomatch h)⟩, by rw [h1]⟩
 · rw [zt] at h1
   have hw : slV 1 v none (some (.int .i64 (l.length : Int))) (some (.int .i64 (l.length : Int))) = some (.slice (some ⟨b, off, none⟩) l.length l.length) := by
    rw [hv] at h1
    cases h1
    rw [hv]
    unfold slV Zy
    simp only [sA, e1, e2, ZU, Nat.sub_zero]
   exact ⟨_, key _ hw, .inr ⟨b, off, none, l.length, by rw [zt], h2⟩, ⟨_, rfl, fun _ h => by cases h; rfl⟩, by rw [h1]; rfl⟩
theorem Va {α : Type} {n m : Nat} {fv xv : Value} {Rep : Nat → DS → Value → α → Prop} {Ok : α → Prop} {enc : α → List Int} {x : α} {x1 x2 : Int} {x3 : Bool} {x4 x5 x6 : Int} (hG : s.Good) (hf : zE E n m s fv Rep Ok enc) (hr : Rep s.next s xv x) (hst : ZQ Rep) (hok : Ok x) (hlen : (enc x).length ≤ 1048576)
 (hxv : xv = .agg ⟨[.int .i64 x1, .int .i64 x2, .bool x3, .int .i64 x4, .int .i64 x5, .int .i64 x6]⟩) (hcode : E.fn 65 = some d65) (hintr : E.intr 65 = none) (hclip : E.fn 67 = some d67) (iclip : E.intr 67 = none) :
 W (dcall E ((d + n + 1) + 1) (.func (.func 65) #[] #[]) [fv, xv] s) fun r => ∃ w, r.1 = .tuple ⟨[w, .int .i64 0]⟩ ∧ SlV r.2 1 w (zC (enc x)) ∧ (∃ a, w = .slice a (enc x).length (enc x).length ∧ ∀ z, a = some z → z.spot = none) ∧ (∀ k, k ∈ blk w → s.next ≤ k ∧ k < r.2.next) ∧ Ext [] s r.2 := by
 obtain ⟨f, a, b, g, a', b', D, rfl, h2, h3, h4⟩ := hf
 subst hxv
 refine zr fun Q hQ => ?_
 rw [zh hintr hcode rfl]
 simp (maxDischargeDepth := 8) only [sA, sM, zb, zJ, Cells.get, getN, Nat.reduceAdd, zg, pp, pv, ldA, DS.read, Cells.take, Nat.reduceLT, d65, hG]
 obtain ⟨S, hS⟩ : ∃ S : DS, S = ((s.new (.cells (.list [.func (.func f) a b, .func (.func g) a' b']) false)).new (.cells (.list [.int .i64 x1, .int .i64 x2, .bool x3, .int .i64 x4, .int .i64 x5, .int .i64 x6]) false)).new (.cells (.list [.slice none 0 0, .int .i64 0]) false) := ⟨_, rfl⟩
 rw [← hS]
 have XS : Ext [] s S := by rw [hS]; exact Ext.new.trans' (Ext.new.trans' Ext.new)
 have nS : S.next = s.next + 3 := by rw [hS]; simp (maxDischargeDepth := 8) only [Nat.reduceAdd, zU, Nat.add_assoc]
 have hGS := XS.good hG
 have S0 : S.get s.next = some (.cells (.list [.func (.func f) a b, .func (.func g) a' b']) false) := by rw [hS]; simp (maxDischargeDepth := 8) only [sM, Nat.reduceAdd, zU, hG]
 have S1 : S.get (s.next + 1) = some (.cells (.list [.int .i64 x1, .int .i64 x2, .bool x3, .int .i64 x4, .int .i64 x5, .int .i64 x6]) false) := by rw [hS]; simp (maxDischargeDepth := 8) only [sM, Nat.reduceAdd, zU, hG]
 have S2 : S.get (s.next + 2) = some (.cells (.list [.slice none 0 0, .int .i64 0]) false) := by rw [hS]; simp (maxDischargeDepth := 8) only [sM, Nat.reduceAdd, zU, hG]
 have O : WG S (s.next + 2) (.slice none 0 0) [] := ⟨S2, XS.wrs (hG _ (by omega)).2, by simpa [zC] using SlC.nil, by simp [blk], by simp⟩
 have hY : Same (s.next) s S := fun k hk => XS.get k hk (by simp)
 have hld : ldA 6 (.pointer (some ⟨s.next + 1, 0, none⟩)) S = some (.agg ⟨[.int .i64 x1, .int .i64 x2, .bool x3, .int .i64 x4, .int .i64 x5, .int .i64 x6]⟩) := by
  unfold ldA DS.read
  simp only [S1]
  rfl
 rw [show d + (n + 1) = (d + 1) + n by omega]
 refine W.mono (h4 (d + 1) S (s.next + 2) _ [] _ x (h2.keep XS (by simp)) (fun p hp => by have := h3 p hp; omega) O hGS (hst.mono _ _ _ _ _ (hst.stab _ _ _ _ _ hr hY) (by omega)) hok (by simpa using hlen)) ?_
 rintro ⟨v3, s3⟩ ⟨hv3, bv3, O3, X3, b3⟩
 simp only at hv3 O3 X3 b3
 subst hv3
 rw [List.nil_append] at O3
 have go3 := O3.go
 obtain ⟨w, hw1, hw2, hw3, hw4⟩ := SQ hC (d := d + n) O3.sl hclip iclip
 rw [show (d + n) + 1 = (d + 1) + n by omega] at hw1
 simp only [sA, zb, zl, zm, Nat.reduceEqDiff, za, zd, Cells.get, getN, go3, hw1]
 have X4 : Ext [] s s3 := XS.trans X3 (by simp [blk])
 refine hQ _ ⟨w, rfl, hw2, hw3, fun k hk => ?_, X4⟩
 rw [hw4] at hk
 refine ⟨?_, O3.sl.lt k hk⟩
 have := O3.up k hk
 omega
theorem Gs (hG : s.Good) {m : Nat} (hm : m ≤ s.next) (hflag : E.fn 52 = some d52) (iflag : E.intr 52 = none) (htu : E.fn 87 = some d87) (itu : E.intr 87 = none)
 (ht : E.fn 116 = some d116) (it : E.intr 116 = none) (h1 : E.fn 88 = some d88) (i1 : E.intr 88 = none) (hf : ∀ d, zG (dcall E d)) :
 W (dcall E (d + 2) (.func (.func 52) #[] #[]) [] s) fun r => zE E 4 m r.2 r.1 PH (fun _ => True) Xp ∧ Ext [] s r.2 := by
 refine zr fun Q hQ => ?_
 rw [zh iflag hflag rfl]
 simp (maxDischargeDepth := 8) only [sA, pp, d52, hG]
 obtain ⟨S, hS⟩ : ∃ S : DS, S = s.new (.cells (.list [.nilFunc, .nilFunc]) false) := ⟨_, rfl⟩
 rw [← hS]
 have XS : Ext [] s S := by rw [hS]; exact Ext.new
 have nS : S.next = s.next + 1 := by rw [hS]; simp (maxDischargeDepth := 8) only [zU]
 have hGS := XS.good hG
 have S0 : S.get s.next = some (.cells (.list [.nilFunc, .nilFunc]) false) := by rw [hS]; simp (maxDischargeDepth := 8) only [zR, hG]
 have wS : S.wr s.next = true := XS.wrs (hG _ (Nat.le_refl _)).2
 clear hS
 refine W.mono (WK hC (d := d) hGS 1 1) ?_
 rintro ⟨v2, s2⟩ ⟨hv2, n1, n2, X2, hn2⟩
 simp only at hv2 n1 n2 X2 hn2
 subst hv2
 have hG2 := X2.good hGS
 have T0 := X2.keep S0 (by simp)
 have wT := X2.wrs wS
 rw [nS] at n1 n2 hn2 ⊢
 have hturn : ∀ f g : Value, W (dcall E (d + 1) (.func (.func 87) #[] #[]) [.agg ⟨[f, g]⟩, .func (.func 88) #[] #[], .func (.func 89) #[] #[]] s2) fun r => r.1 = .agg ⟨[.func (.func 116) #[] #[.pointer (some ⟨s2.next, 0, none⟩), .pointer (some ⟨s2.next + 1, 0, none⟩)], .func (.func 117) #[] #[.pointer (some ⟨s2.next + 2, 0, none⟩), .pointer (some ⟨s2.next, 0, none⟩)]]⟩ ∧
  r.2.get s2.next = some (.cells (.list [f, g]) false) ∧ r.2.get (s2.next + 1) = some (.cells (.list [.func (.func 88) #[] #[]]) false) ∧ Ext [] s2 r.2 ∧ r.2.next = s2.next + 4 := by
  intro f g
  refine zr fun Q hQ => ?_
  rw [zh itu htu rfl]
  simp (maxDischargeDepth := 8) only [sA, sM, zo, za, zd, Cells.get, getN, Nat.reduceAdd, allOne, ze, Nat.reduceLeDiff, DS.wrC, Cells.size, Cells.fillFrom, Cells.set, zk, zg, pp, DS.read, Cells.take, Nat.reduceLT, d87, hG2]
  refine hQ _ ⟨rfl, ?_, ?_, ?_, ?_⟩
  · simp (maxDischargeDepth := 8) only [sA, sM, Nat.reduceAdd, hG2]
  · simp (maxDischargeDepth := 8) only [sA, sM, Nat.reduceAdd, Nat.reduceLT, hG2]
  · exact (Ext.new.trans' (Ext.new.trans' (Ext.new.trans' Ext.new))).trans (Ext.upd (F := [s2.next + 3]) (.inl (by simp))) (by simp)
  · simp (maxDischargeDepth := 8) only [sA, Nat.reduceAdd, Nat.add_assoc]
 simp only [sA]
 refine W.mono (hturn _ _) ?_
 rintro ⟨v3, s3⟩ ⟨hv3, m1, m2, X3, hn3⟩
 simp only at hv3 m1 m2 X3 hn3
 subst hv3
 have U0 := X3.keep T0 (by simp)
 have wU := X3.wrs wT
 have k1 := X3.keep n1 (by simp)
 have k2 := X3.keep n2 (by simp)
 simp only [sA, zo, za, zd, Cells.get, getN, Nat.reduceAdd, allOne, ze, reduceCtorEq, DS.wrC, Cells.size, Cells.fillFrom, Cells.set, zk, DS.read, Cells.take, U0, wU]
 have X4 : ∀ o, Ext [] s (s3.upd s.next o) := fun o => (XS.trans' (X2.trans' X3)).trans (Ext.upd (F := [s.next]) (.inl (by simp))) (by simp)
 refine hQ _ ⟨⟨_, _, _, _, _, _, (s2.next, .cells (.list [.func (.func 112) #[] #[.pointer (some ⟨s.next + 1, 0, none⟩), .pointer (some ⟨s.next + 1 + 1, 0, none⟩)], .func (.func 114) #[] #[.pointer (some ⟨s.next + 1, 0, none⟩), .pointer (some ⟨s.next + 1 + 1, 0, none⟩)]]) false) :: (s2.next + 1, .cells (.list [.func (.func 88) #[] #[]]) false) :: [(s.next + 1, .cells (.list [.int .i64 ((1 : Nat) : Int)]) false), (s.next + 1 + 1, .cells (.list [.int .i64 1]) false)], rfl, ?_, ?_, Td hC (J9 hC (b1 := s.next + 1) (b2 := s.next + 1 + 1) (size := 1) (most := 1) (by omega)) (by omega) ht it h1 i1 hf⟩, X4 _⟩
 · intro p hp
   rcases List.mem_cons.1 hp with rfl | hp
   · simp (maxDischargeDepth := 8) only [sA, Nat.reduceAdd, Nat.add_assoc, m1, show ¬ s2.next = s.next by omega]
   · rcases List.mem_cons.1 hp with rfl | hp
     · simp (maxDischargeDepth := 8) only [sA, m2, show ¬ s2.next + 1 = s.next by omega]
     · rcases List.mem_cons.1 hp with rfl | hp
       · simp (maxDischargeDepth := 8) only [sA, k1, show ¬ s.next + 1 = s.next by omega]
         rfl
       · rcases List.mem_cons.1 hp with rfl | hp
         · simp (maxDischargeDepth := 8) only [sA, Nat.reduceAdd, Nat.add_assoc, k2, show ¬ s.next + 1 + 1 = s.next by omega]
         · cases hp
 · intro p hp
   have : m ≤ p.1 ∧ p.1 < s3.next := by
    rcases List.mem_cons.1 hp with rfl | hp
    · show m ≤ s2.next ∧ s2.next < s3.next; omega
    · rcases List.mem_cons.1 hp with rfl | hp
      · show m ≤ s2.next + 1 ∧ s2.next + 1 < s3.next; omega
      · rcases List.mem_cons.1 hp with rfl | hp
        · show m ≤ s.next + 1 ∧ s.next + 1 < s3.next; omega
        · rcases List.mem_cons.1 hp with rfl | hp
          · show m ≤ s.next + 1 + 1 ∧ s.next + 1 + 1 < s3.next; omega
          · cases hp
   simp (maxDischargeDepth := 8) only [DS.upd_next]
   exact this
end
end Go.Dx.TbA
