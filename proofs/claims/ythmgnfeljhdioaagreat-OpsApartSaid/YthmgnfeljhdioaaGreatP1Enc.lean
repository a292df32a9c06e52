/- A part. -/
import Derived.Test.YthmgnfeljhdioaaGreatP1Tab
set_option linter.unusedVariables false
set_option linter.unusedSimpArgs false
set_option linter.unusedSectionVars false
set_option maxRecDepth 100000
set_option maxHeartbeats 4000000
namespace Go.Dx.TbA
open Go Go.Dx Go.Dx.Tab Go.Proofs.YthmgnfeljhdioaaGreat
structure Pg (E : Env) : Prop where
 fbyte : E.fn 54 = some d54
 ibyte : E.intr 54 = none
 fint : E.fn 55 = some d55
 iint : E.intr 55 = none
 fII : E.fn 53 = some d53
 iII : E.intr 53 = none
 fII1 : E.fn 82 = some d82
 iII1 : E.intr 82 = none
 fHB : E.fn 61 = some d61
 iHB : E.intr 61 = none
 fHB1 : E.fn 98 = some d98
 iHB1 : E.intr 98 = none
 fIH : E.fn 63 = some d63
 iIH : E.intr 63 = none
 fIH1 : E.fn 103 = some d103
 iIH1 : E.intr 103 = none
 fTT : E.fn 60 = some d60
 iTT : E.intr 60 = none
 fTT1 : E.fn 96 = some d96
 iTT1 : E.intr 96 = none
 fflag : E.fn 62 = some d62
 iflag : E.intr 62 = none
 fflag1 : E.fn 101 = some d101
 iflag1 : E.intr 101 = none
 fturn : E.fn 100 = some d100
 iturn : E.intr 100 = none
 fturn1 : E.fn 124 = some d124
 iturn1 : E.intr 124 = none
 fclip : E.fn 51 = some d51
 iclip : E.intr 51 = none
 fEnc : E.fn 28 = some d28
 iEnc : E.intr 28 = none
 fform : E.fn 29 = some d29
 iform : E.intr 29 = none
 fRep : E.fn 8 = some d8
 iRep : E.intr 8 = none
 fr : ∀ d, zO (dcall E d)
def CI : Nat → DS → Value → Int × Int → Prop := XB Jq Jq
theorem VJ : Z2 CI := QY XU XU
theorem CH : ∀ (o : Nat) (s : DS) (v : Value) (x : Int × Int), CI o s v x → ∃ n1 n2, v = .agg ⟨[.int .i64 n1, .int .i64 n2]⟩ := fun o s v x ⟨a, b, e, h1, h2⟩ => by
 have h1 : a = .int .i64 x.1 := h1
 have h2 : b = .int .i64 x.2 := h2
 subst h1 h2
 exact ⟨_, _, e⟩
section
variable {E : Env} (hC : Fu E) (hT : D7 E) (hE : Pg E) {s s' : DS} {d : Nat} {t m clock : Nat} {M : TRs}
include hT
include hC hE
omit hT hC hE in
theorem CR {s : DS} {nt : List Zc} {haz : List Nat} {k : Nat} : (YV s nt haz).wr k = (s.wr k && !hidden nt haz k && !shielded nt haz k) := Eq.trans rfl rfl
omit hT hC hE in
theorem Vx {s : DS} {nt : List Zc} {haz : List Nat} {k : Nat} {o : DObj} (h : hidden nt haz k = false) : Z5 s ((YV s nt haz).upd k o) = s.upd k o := by
 unfold DS.upd
 rw [Y5 h]
 split <;> rfl
end
end Go.Dx.TbA
