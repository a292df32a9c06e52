/- A part. -/
import Derived.Test.YthmgnfeljhdioaaGreatDxGz
import Derived.Test.YthmgnfeljhdioaaGreatDxOut
set_option linter.unusedVariables false
set_option linter.unusedSimpArgs false
set_option linter.unusedSectionVars false
set_option maxRecDepth 100000
set_option maxHeartbeats 4000000
namespace Go.Dx.TbA
open Go Go.Dx Go.Proofs.YthmgnfeljhdioaaGreat
structure VO (E : Env) : Prop where
 fcput : E.fn 88 = some d88
 icput : E.intr 88 = none
 fclow : E.fn 121 = some d121
 iclow : E.intr 121 = none
 fnum : E.fn 84 = some d84
 inum : E.intr 84 = none
 fnum1 : E.fn 120 = some d120
 inum1 : E.intr 120 = none
 lf : 10000 ≤ E.lf
section
variable {E : Env} (hC : VO E) {s : DS} {o : Nat} {bv : Value} {bs cs : List Int} {d : Nat}
include hC
theorem JV (hG : s.Good) (size most : Int) :
 W (dcall E (d + 1) (.func (.func 84) #[] #[]) [.int .i64 size, .int .i64 most] s) fun r => r.1 = .agg ⟨[.func (.func 120) #[] #[.pointer (some ⟨s.next, 0, none⟩), .pointer (some ⟨s.next + 1, 0, none⟩)], .func (.func 122) #[] #[.pointer (some ⟨s.next, 0, none⟩), .pointer (some ⟨s.next + 1, 0, none⟩)]]⟩ ∧
  r.2.get s.next = some (.cells (.list [.int .i64 size]) false) ∧ r.2.get (s.next + 1) = some (.cells (.list [.int .i64 most]) false) ∧ Ext [] s r.2 ∧ r.2.next = s.next + 3 := by
 refine zD fun Q hQ => ?_
 rw [zn hC.inum hC.fnum rfl]
 simp (maxDischargeDepth := 8) only [sA, sM, zk, za, zf, Cells.get, getN, Nat.reduceAdd, zh, zg, Nat.reduceLeDiff, DS.wrC, Cells.size, Cells.fillFrom, Cells.set, zt, zi, pp, DS.read, Cells.take, Nat.reduceLT, d84, hG]
 refine hQ _ ⟨rfl, ?_, ?_, ?_, ?_⟩
 · simp (maxDischargeDepth := 8) only [sA, sM, Nat.reduceAdd, hG]
 · simp (maxDischargeDepth := 8) only [sA, sM, Nat.reduceAdd, hG]
 · exact (Ext.new.trans' (Ext.new.trans' Ext.new)).trans (Ext.upd (F := [s.next + 2]) (.inl (by simp))) (by simp)
 · simp (maxDischargeDepth := 8) only [sA, Nat.reduceAdd, Nat.add_assoc]
end
end Go.Dx.TbA
