/- A part. -/
import Derived.Test.YthmgnfeljhdioaaGreatP1Cg
set_option linter.unusedVariables false
set_option linter.unusedSimpArgs false
set_option linter.unusedSectionVars false
set_option maxRecDepth 100000
set_option maxHeartbeats 4000000
namespace Go.Dx.TbA
open Go Go.Dx Go.Proofs.YthmgnfeljhdioaaGreat
structure PU (E : Env) : Prop where
 fbyte : E.fn 54 = some d54
 ibyte : E.intr 54 = none
 fint : E.fn 55 = some d55
 iint : E.intr 55 = none
 fbII : E.fn 53 = some d53
 ibII : E.intr 53 = none
 fbII2 : E.fn 83 = some d83
 ibII2 : E.intr 83 = none
 fbHB : E.fn 61 = some d61
 ibHB : E.intr 61 = none
 fbHB2 : E.fn 99 = some d99
 ibHB2 : E.intr 99 = none
 fbIH : E.fn 63 = some d63
 ibIH : E.intr 63 = none
 fbIH2 : E.fn 104 = some d104
 ibIH2 : E.intr 104 = none
 fbTT : E.fn 60 = some d60
 ibTT : E.intr 60 = none
 fbTT2 : E.fn 97 = some d97
 ibTT2 : E.intr 97 = none
 fflag : E.fn 62 = some d62
 iflag : E.intr 62 = none
 fflag2 : E.fn 102 = some d102
 iflag2 : E.intr 102 = none
 fturn : E.fn 100 = some d100
 iturn : E.intr 100 = none
 fturn2 : E.fn 125 = some d125
 iturn2 : E.intr 125 = none
 fform : E.fn 29 = some d29
 iform : E.intr 29 = none
 fFirstR : E.fn 67 = some d67
 iFirstR : E.intr 67 = none
 fDecR : E.fn 37 = some d37
 iDecR : E.intr 37 = none
 fDecRep : E.fn 15 = some d15
 iDecRep : E.intr 15 = none
 fmayR : E.fn 27 = some d27
 imayR : E.intr 27 = none
 fr : ∀ d, zO (dcall E d)
end Go.Dx.TbA
