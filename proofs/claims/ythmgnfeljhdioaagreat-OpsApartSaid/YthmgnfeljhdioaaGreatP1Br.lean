/- A part. -/
import Derived.Test.YthmgnfeljhdioaaGreatP1Bq
import Derived.Test.YthmgnfeljhdioaaGreatP1Enc
import Derived.Test.YthmgnfeljhdioaaGreatP1Dr
set_option linter.unusedVariables false
set_option linter.unusedSimpArgs false
set_option linter.unusedSectionVars false
set_option maxRecDepth 100000
set_option maxHeartbeats 4000000
namespace Go.Dx.TbA
open Go Go.Dx Go.Dx.Tab Go.Proofs.YthmgnfeljhdioaaGreat
structure SQ (E : Env) : Prop where
 fqform : E.fn 26 = some d26
 iqform : E.intr 26 = none
 fqFirst : E.fn 64 = some d64
 iqFirst : E.intr 64 = none
 fqDec : E.fn 32 = some d32
 iqDec : E.intr 32 = none
 fqDecode : E.fn 12 = some d12
 iqDecode : E.intr 12 = none
 fmanyI : E.fn 59 = some d59
 imanyI : E.intr 59 = none
 fmanyI2 : E.fn 95 = some d95
 imanyI2 : E.intr 95 = none
 fbLI : E.fn 58 = some d58
 ibLI : E.intr 58 = none
 fbLI2 : E.fn 93 = some d93
 ibLI2 : E.intr 93 = none
 fbBP : E.fn 56 = some d56
 ibBP : E.intr 56 = none
 fbBP2 : E.fn 86 = some d86
 ibBP2 : E.intr 86 = none
 fbQ : E.fn 52 = some d52
 ibQ : E.intr 52 = none
 fbQ2 : E.fn 81 = some d81
 ibQ2 : E.intr 81 = none
 fblob : E.fn 57 = some d57
 iblob : E.intr 57 = none
 fblob2 : E.fn 89 = some d89
 iblob2 : E.intr 89 = none
 fcloneB : E.fn 90 = some d90
 icloneB : E.intr 90 = none
 lf : 10000 ≤ E.lf
abbrev Z4 := (Int × Int) × (List Int × (List Int × Int))
def rdQ : RS → Z4 × RS := rdP (rdP (rdN 1 255) (rdN 8 0)) (rdP rdB (rdP (rdL (rdN 8 0)) (rdN 8 0)))
structure Ym (n : Nat) (s : DS) (cells : List Value) (x : Z4) : Prop where
 ex : ∃ b1 c1 b2 c2, cells = [.int .i64 x.1.1, .int .i64 x.1.2, .slice b1 x.2.1.length c1, .slice b2 x.2.2.1.length c2, .int .i64 x.2.2.2] ∧ PB n s (.slice b1 x.2.1.length c1) x.2.1 ∧ PA n s (.slice b2 x.2.2.1.length c2) x.2.2.1
theorem Ym.stab {n : Nat} {s s' : DS} {v : List Value} {x : Z4} {F : List Nat} (h : Ym n s v x) (e : Ext F s s') (hF : ∀ k, k ∈ F → k < n) : Ym n s' v x := by
 obtain ⟨b1, c1, b2, c2, h0, h1, h2⟩ := h
 exact ⟨b1, c1, b2, c2, h0, FP.stab _ _ _ _ _ _ h1 e hF, FO.stab _ _ _ _ _ _ h2 e hF⟩
theorem Ym.mono {n n' : Nat} {s : DS} {v : List Value} {x : Z4} (h : Ym n s v x) (hn : n' ≤ n) : Ym n' s v x := by
 obtain ⟨b1, c1, b2, c2, h0, h1, h2⟩ := h
 exact ⟨b1, c1, b2, c2, h0, FP.mono _ _ _ _ _ h1 hn, FO.mono _ _ _ _ _ h2 hn⟩
def WG (x : Z4) : Prop := Who x.1.1 x.1.2 ∧ (x.2.1.length : Int) ≤ 16384 ∧ (x.2.2.1.length : Int) ≤ 8 ∧ 0 ≤ x.2.2.2 ∧ x.2.2.2 ≤ 1048576
instance (x : Z4) : Decidable (WG x) := by unfold WG; infer_instance
section
variable {E : Env} (hT : D7 E) {s : DS} {d : Nat}
include hT
theorem Se (hG : s.Good) (x : Z4) (b1 b2 : Option Addr) (c1 c2 : Nat) : W (dcall E (d + 3) (.func (.func 9) #[] #[]) [.agg ⟨[.int .i64 x.1.1, .int .i64 x.1.2, .slice b1 x.2.1.length c1, .slice b2 x.2.2.1.length c2, .int .i64 x.2.2.2]⟩] s) fun r => r.1 = .bool (decide (WG x)) ∧ Ext [] s r.2 := by
 refine Zz fun Q hQ => ?_
 rw [zC hT.ioMay hT.foMay rfl]
 have h1 := fun S => RR hT (d := d) (s := S) x.1.1 x.1.2
 have h2 := fun S => Qf hT (d := d + 1) (s := S) x.2.2.2 0 1048576
 unfold WG at hQ
 by_cases w1 : Who x.1.1 x.1.2
 · simp only [decide_eq_true w1] at h1
   by_cases w2 : (x.2.1.length : Int) ≤ 16384
   · by_cases w3 : (x.2.2.1.length : Int) ≤ 8
     · simp (maxDischargeDepth := 8) only [sA, sM, zc, zy, zn, ze, zh, Cells.get, getN, pp, pv, pg, Nat.reduceLT, d9, hG, h1, h2, w2, w3]
       exact hQ _ ⟨by simp [w1, w2, w3], Ext.new⟩
     · simp (maxDischargeDepth := 8) only [sA, sM, zc, zy, zn, ze, zh, Cells.get, getN, pp, pv, pg, Nat.reduceLT, d9, hG, h1, h2, w2, w3]
       exact hQ _ ⟨by simp [w1, w2, w3], Ext.new⟩
   · simp (maxDischargeDepth := 8) only [sA, sM, zc, zy, zn, ze, zh, Cells.get, getN, pp, pv, pg, Nat.reduceLT, d9, hG, h1, h2, w2]
     exact hQ _ ⟨by simp [w1, w2], Ext.new⟩
 · simp only [decide_eq_false w1] at h1
   simp (maxDischargeDepth := 8) only [sA, sM, zc, ze, zh, Cells.get, getN, pp, pv, pg, Nat.reduceLT, d9, hG, h1, h2]
   exact hQ _ ⟨by simp [w1], Ext.new⟩
end
section
variable {E : Env} (hQf : SQ E) {s : DS} {d : Nat} {bv : Value} {bs : List Int}
include hQf
def RL (bs : List Int) : Prop := (rdQ (bs, false)).2.2 = false ∧ (rdQ (bs, false)).2.1 = []
end
section
variable {E : Env} (hC : Fu E) (hG' : P3 E) (hR : PU E) (hT : D7 E) (hQf : SQ E) {s : DS} {d : Nat} {bv : Value} {bs : List Int}
include hC hG' hR hT hQf
def Ja (bs : List Int) : Prop := RL bs ∧ WG (rdQ (bs, false)).1
end
end Go.Dx.TbA
