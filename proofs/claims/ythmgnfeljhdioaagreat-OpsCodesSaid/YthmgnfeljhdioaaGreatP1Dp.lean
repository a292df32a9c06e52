/- A part. -/
import Derived.Test.YthmgnfeljhdioaaGreatP1Enc
import Derived.Test.YthmgnfeljhdioaaGreatP1Dr
set_option linter.unusedVariables false
set_option linter.unusedSimpArgs false
set_option linter.unusedSectionVars false
set_option maxRecDepth 100000
set_option maxHeartbeats 4000000
namespace Go.Dx.TbA
open Go Go.Dx Go.Dx.Tab Go.Proofs.YthmgnfeljhdioaaGreat
def SU (x : Dp) : Rp := ⟨x.1.1.1, x.1.1.2, x.1.2, x.2.1, x.2.2.1, x.2.2.2⟩
def K6 (bs : List Int) : Prop := Dr bs ∧ ZE (SU (Xg (bs, false)).1)
section
variable {E : Env} (hC : Ja E) (hG' : GF E) (hR : VX E) (hT : GD E) {s : DS} {d : Nat} {bv : Value} {bs : List Int}
include hC hG' hR hT
theorem Sl (hv : SlR s bv bs) (hB : IsB bs) (hl : bs.length ≤ 1048576) (hG : s.Good) :
 W (dcall E (d + 9) (.func (.func 15) #[] #[]) [bv] s) fun p => Ext [] s p.2 ∧ ((¬ K6 bs ∧ p.1 = .tuple ⟨[.agg ⟨[.int .i64 0, .int .i64 0, .bool false, .int .i64 0, .int .i64 0, .int .i64 0]⟩, .int .i64 10]⟩) ∨
  (K6 bs ∧ p.1 = .tuple ⟨[.agg ⟨(SU (Xg (bs, false)).1).cells⟩, .int .i64 0]⟩)) := by
 obtain ⟨ba, bc, hbv⟩ := hv.len
 have hvl := hv.lt
 refine zp fun Q hQ => ?_
 rw [zj hR.iDecRep hR.fDecRep rfl]
 simp (maxDischargeDepth := 8) only [sA, pp, pv, pg, d15, hG]
 obtain ⟨S1, hS1⟩ : ∃ S1 : DS, S1 = s.new (.cells (.list [.int .i64 0, .int .i64 0, .bool false, .int .i64 0, .int .i64 0, .int .i64 0]) false) := ⟨_, rfl⟩
 rw [← hS1]
 have X1 : Ext [] s S1 := by rw [hS1]; exact Ext.new
 have G1 := X1.good hG
 have g1 : S1.get s.next = some (.cells (.list [.int .i64 0, .int .i64 0, .bool false, .int .i64 0, .int .i64 0, .int .i64 0]) false) := by rw [hS1]; exact DS.new_get_self hG
 have w1 : S1.wr s.next = true := X1.wrs (hG _ (Nat.le_refl _)).2
 refine W.mono (RV hC hG' hR (d := d + 5) G1) ?_
 rintro ⟨v2, s2⟩ ⟨f2, X2⟩
 simp only at f2 X2
 have G2 := X2.good G1
 simp only [sA, Nat.reduceEqDiff, reduceCtorEq]
 refine W.mono (NU hR (d := d) f2 ((hv.keep X1 (by simp)).keep X2 (by simp)) hB hl G2) ?_
 rintro ⟨v3, s3⟩ ⟨X3, h3⟩
 simp only at X3 h3
 have G3 := X3.good G2
 have g3 := X3.keep (X2.keep g1 (by simp)) (by simp)
 have w3 := X3.wrs (X2.wrs w1)
 have l3 := DS.get_lt' g3
 have X03 := (X1.trans' X2).trans' X3
 have U : ∀ o1 o2 o3 o4, Ext [] s3 ((((s3.new o1).upd s3.next o2).new o3).upd (s3.next + 1) o4) := fun o1 o2 o3 o4 => by
  have e1 : Ext [] s3 (s3.new o1) := Ext.new
  have e2 : Ext [s3.next] (s3.new o1) ((s3.new o1).upd s3.next o2) := Ext.upd (.inl (by simp))
  have e3 : Ext [] ((s3.new o1).upd s3.next o2) (((s3.new o1).upd s3.next o2).new o3) := Ext.new
  have e4 : Ext [s3.next + 1] (((s3.new o1).upd s3.next o2).new o3) ((((s3.new o1).upd s3.next o2).new o3).upd (s3.next + 1) o4) := Ext.upd (.inl (by simp))
  exact ((e1.trans e2 (by simp)).trans' e3).trans e4 (by simp)
 have hsn : s.next ≤ s3.next := by omega
 rcases h3 with ⟨hng, h3⟩ | ⟨hg, h3⟩
 · subst h3
   have hn : ¬ K6 bs := fun h => hng h.1
   simp (maxDischargeDepth := 8) only [sA, sM, zb, zo, zm, zk, za, ze, Cells.get, getN, Nat.reduceAdd, zh, zg, Nat.reduceLeDiff, DS.wrC, Cells.size, Cells.fillFrom, Cells.set, zA, zi, Int.reduceEq, DS.read, Cells.take, Nat.reduceLT, g3, w3, G3, l3]
   exact hQ _ ⟨(X03.trans' (U _ _ _ _)).trans (Ext.upd (F := [s.next]) (.inl (by simp))) (by simp), .inl ⟨hn, rfl⟩⟩
 · unfold tdV at h3
   subst h3
   simp (maxDischargeDepth := 8) only [sA, sM, zb, zo, zm, Cells.get, getN, Nat.reduceAdd, zh, zg, Nat.reduceLeDiff, DS.wrC, Cells.size, Cells.fillFrom, Cells.set, zA, zi, ldA, DS.read, Cells.take, Nat.reduceLT, g3, w3, G3, l3]
   obtain ⟨x, hx⟩ : ∃ x, x = (Xg (bs, false)).1 := ⟨_, rfl⟩
   rw [← hx] at hQ ⊢
   obtain ⟨S4, hS4⟩ : ∃ S4 : DS, S4 = ((((s3.new (.cells (.list [.int .i64 0, .int .i64 0, .bool false, .int .i64 0, .int .i64 0, .int .i64 0]) false)).upd s3.next (.cells (.list [.int .i64 x.1.1.1, .int .i64 x.1.1.2, .bool x.1.2, .int .i64 x.2.1, .int .i64 x.2.2.1, .int .i64 x.2.2.2]) false)).new (.cells (.list [.int .i64 0, .int .i64 0, .bool false, .int .i64 0, .int .i64 0, .int .i64 0]) false)).upd (s3.next + 1) (.cells (.list [.int .i64 x.1.1.1, .int .i64 x.1.1.2, .bool x.1.2, .int .i64 x.2.1, .int .i64 x.2.2.1, .int .i64 x.2.2.2]) false)) := ⟨_, rfl⟩
   rw [← hS4]
   have X4 : Ext [] s3 S4 := by rw [hS4]; exact U _ _ _ _
   have G4 := X4.good G3
   have gx : S4.get (s3.next + 1) = some (.cells (.list [.int .i64 x.1.1.1, .int .i64 x.1.1.2, .bool x.1.2, .int .i64 x.2.1, .int .i64 x.2.2.1, .int .i64 x.2.2.2]) false) := by rw [hS4]; simp (maxDischargeDepth := 8) only [sA, sM, G3]
   have g4 := X4.keep g3 (by simp)
   have w4 := X4.wrs w3
   refine W.mono (Gg hT (d := d + 5) G4 (SU x)) ?_
   rintro ⟨v5, s5⟩ ⟨h5, X5⟩
   simp only at h5 X5
   subst h5
   have gx5 := X5.keep gx (by simp)
   have g5 := X5.keep g4 (by simp)
   have w5 := X5.wrs w4
   have X05 := (X03.trans' X4).trans' X5
   have XF : ∀ o, Ext [] s (s5.upd s.next o) := fun o => X05.trans (Ext.upd (F := [s.next]) (.inl (by simp))) (by simp)
   by_cases hm : ZE (SU x)
   · rw [decide_eq_true hm]
     simp (maxDischargeDepth := 8) only [sA, sM, zb, zk, za, ze, Cells.get, getN, Nat.reduceAdd, zh, zg, DS.wrC, Cells.size, Cells.fillFrom, Cells.set, zA, ldA, DS.read, Cells.take, Nat.reduceLT, gx5, g5, w5]
     exact hQ _ ⟨XF _, .inr ⟨⟨hg, by rw [← hx]; exact hm⟩, rfl⟩⟩
   · rw [decide_eq_false hm]
     simp (maxDischargeDepth := 8) only [sA, sM, zb, zk, za, ze, Cells.get, getN, Nat.reduceAdd, zh, zg, DS.wrC, Cells.size, Cells.fillFrom, Cells.set, zA, zi, DS.read, Cells.take, Nat.reduceLT, gx5, g5, w5]
     exact hQ _ ⟨XF _, .inl ⟨fun h => hm (by rw [hx]; exact h.2), rfl⟩⟩
end
end Go.Dx.TbA
