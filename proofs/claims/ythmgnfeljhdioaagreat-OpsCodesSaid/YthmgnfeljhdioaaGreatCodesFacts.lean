/- opsCodes: what the row's closed cells say of the program, fact by fact. -/
import Derived.Test.YthmgnfeljhdioaaGreatRows
import Derived.JoinedCond
import Derived.KernelRfl
namespace Go.Proofs.YthmgnfeljhdioaaGreat.opsCodes
open Go
set_option linter.unusedVariables false
set_option linter.unusedSimpArgs false
set_option maxRecDepth 100000
theorem fact0 : (fun (P : Program) (f : FuncId) (fn : Func) (s : ChangeSpec) (c : OpenClaim) => c.wf (OpenSpec.ofChange s)) Tryz.checked.prog 3 Tryz.f3 (OpenSpec.ofChange Rows.opsCodesSpec).bare Rows.opsCodesRow = true := by kernel_rfl
theorem rows0 : (List.range' 0 60).all (rowFine Tryz.prog) = true := by kernel_rfl
theorem rows1 : (List.range' 60 60).all (rowFine Tryz.prog) = true := by kernel_rfl
theorem rows2 : (List.range' 120 60).all (rowFine Tryz.prog) = true := by kernel_rfl
theorem rows3 : (List.range' 180 60).all (rowFine Tryz.prog) = true := by kernel_rfl
theorem rows4 : (List.range' 240 60).all (rowFine Tryz.prog) = true := by kernel_rfl
theorem rows5 : (List.range' 300 60).all (rowFine Tryz.prog) = true := by kernel_rfl
theorem rows6 : (List.range' 360 60).all (rowFine Tryz.prog) = true := by kernel_rfl
theorem rows7 : (List.range' 420 60).all (rowFine Tryz.prog) = true := by kernel_rfl
theorem rows8 : (List.range' 480 30).all (rowFine Tryz.prog) = true := by kernel_rfl
theorem sizeT : Tryz.prog.types.size = 510 := by kernel_rfl
theorem rowsG : Tryz.prog.globals.all (fun g => decide (g.type < Tryz.prog.types.size)) = true := by kernel_rfl
theorem rowsF : Tryz.prog.funcs.all (fun f => f.params.all fun t => decide (t < Tryz.prog.types.size)) = true := by kernel_rfl
theorem split : List.range 510 = List.range' 0 60 ++ (List.range' 60 60 ++ (List.range' 120 60 ++ (List.range' 180 60 ++ (List.range' 240 60 ++ (List.range' 300 60 ++ (List.range' 360 60 ++ (List.range' 420 60 ++ (List.range' 480 30)))))))) := by kernel_rfl
theorem laid : laidOutB Tryz.prog = true := by
  unfold laidOutB
  rw [rowsG, rowsF, sizeT, split]
  simp only [List.all_append, rows0, rows1, rows2, rows3, rows4, rows5, rows6, rows7, rows8, Bool.and_self, Bool.and_true]
theorem fact1 : (fun (P : Program) (f : FuncId) (fn : Func) (s : ChangeSpec) (c : OpenClaim) => laidOutB P) Tryz.checked.prog 3 Tryz.f3 (OpenSpec.ofChange Rows.opsCodesSpec).bare Rows.opsCodesRow = true := laid
theorem fact2 : (fun (P : Program) (f : FuncId) (fn : Func) (s : ChangeSpec) (c : OpenClaim) => mapsRowed P) Tryz.checked.prog 3 Tryz.f3 (OpenSpec.ofChange Rows.opsCodesSpec).bare Rows.opsCodesRow = true := by kernel_rfl
theorem fact3 : (fun (P : Program) (f : FuncId) (fn : Func) (s : ChangeSpec) (c : OpenClaim) => fn.params.all (P.readableRec ·)) Tryz.checked.prog 3 Tryz.f3 (OpenSpec.ofChange Rows.opsCodesSpec).bare Rows.opsCodesRow = true := by kernel_rfl
theorem fact4 : (fun (P : Program) (f : FuncId) (fn : Func) (s : ChangeSpec) (c : OpenClaim) => namedTie P c.named s.vars) Tryz.checked.prog 3 Tryz.f3 (OpenSpec.ofChange Rows.opsCodesSpec).bare Rows.opsCodesRow = true := by kernel_rfl
theorem fact5 : (fun (P : Program) (f : FuncId) (fn : Func) (s : ChangeSpec) (c : OpenClaim) => (c.stops == [])) Tryz.checked.prog 3 Tryz.f3 (OpenSpec.ofChange Rows.opsCodesSpec).bare Rows.opsCodesRow = true := by kernel_rfl
theorem fact6 : (fun (P : Program) (f : FuncId) (fn : Func) (s : ChangeSpec) (c : OpenClaim) => (P.stops == [])) Tryz.checked.prog 3 Tryz.f3 (OpenSpec.ofChange Rows.opsCodesSpec).bare Rows.opsCodesRow = true := by kernel_rfl
theorem fact7 : (fun (P : Program) (f : FuncId) (fn : Func) (s : ChangeSpec) (c : OpenClaim) => (c.knobs == [])) Tryz.checked.prog 3 Tryz.f3 (OpenSpec.ofChange Rows.opsCodesSpec).bare Rows.opsCodesRow = true := by kernel_rfl
theorem fact8 : (fun (P : Program) (f : FuncId) (fn : Func) (s : ChangeSpec) (c : OpenClaim) => (P.stopKnobs == [])) Tryz.checked.prog 3 Tryz.f3 (OpenSpec.ofChange Rows.opsCodesSpec).bare Rows.opsCodesRow = true := by kernel_rfl
theorem fact9 : (fun (P : Program) (f : FuncId) (fn : Func) (s : ChangeSpec) (c : OpenClaim) => (c.inPlace == P.inPlace f)) Tryz.checked.prog 3 Tryz.f3 (OpenSpec.ofChange Rows.opsCodesSpec).bare Rows.opsCodesRow = true := by kernel_rfl
theorem fact10 : (fun (P : Program) (f : FuncId) (fn : Func) (s : ChangeSpec) (c : OpenClaim) => (c.unfollowed == P.unfollowed f)) Tryz.checked.prog 3 Tryz.f3 (OpenSpec.ofChange Rows.opsCodesSpec).bare Rows.opsCodesRow = true := by kernel_rfl
theorem fact11 : (fun (P : Program) (f : FuncId) (fn : Func) (s : ChangeSpec) (c : OpenClaim) => (c.recurses == P.recurses f)) Tryz.checked.prog 3 Tryz.f3 (OpenSpec.ofChange Rows.opsCodesSpec).bare Rows.opsCodesRow = true := by kernel_rfl
theorem fact12 : (fun (P : Program) (f : FuncId) (fn : Func) (s : ChangeSpec) (c : OpenClaim) => (c.named == P.varsNamed f)) Tryz.checked.prog 3 Tryz.f3 (OpenSpec.ofChange Rows.opsCodesSpec).bare Rows.opsCodesRow = true := by kernel_rfl
theorem fact13 : (fun (P : Program) (f : FuncId) (fn : Func) (s : ChangeSpec) (c : OpenClaim) => (c.maps == (fn.params.toList ++ s.plain.varTypes P).any (P.mapsRec ·))) Tryz.checked.prog 3 Tryz.f3 (OpenSpec.ofChange Rows.opsCodesSpec).bare Rows.opsCodesRow = true := by kernel_rfl
theorem fact14 : (fun (P : Program) (f : FuncId) (fn : Func) (s : ChangeSpec) (c : OpenClaim) => (c.ifaces == (fn.params.toList ++ s.plain.varTypes P).any (P.ifacesRec ·))) Tryz.checked.prog 3 Tryz.f3 (OpenSpec.ofChange Rows.opsCodesSpec).bare Rows.opsCodesRow = true := by kernel_rfl
theorem fact15 : (fun (P : Program) (f : FuncId) (fn : Func) (s : ChangeSpec) (c : OpenClaim) => (c.mapsOut == P.mapsAmong fn.resultTypes.toList)) Tryz.checked.prog 3 Tryz.f3 (OpenSpec.ofChange Rows.opsCodesSpec).bare Rows.opsCodesRow = true := by kernel_rfl
theorem fact16 : (fun (P : Program) (f : FuncId) (fn : Func) (s : ChangeSpec) (c : OpenClaim) => (c.loops == (fn.params.toList ++ s.plain.varTypes P).any (P.loopsFrom ·))) Tryz.checked.prog 3 Tryz.f3 (OpenSpec.ofChange Rows.opsCodesSpec).bare Rows.opsCodesRow = true := by kernel_rfl
theorem fact17 : (fun (P : Program) (f : FuncId) (fn : Func) (s : ChangeSpec) (c : OpenClaim) => (c.wideKeys == (fn.params.toList ++ s.plain.varTypes P ++ fn.resultTypes.toList).any (P.wideKeysFrom ·))) Tryz.checked.prog 3 Tryz.f3 (OpenSpec.ofChange Rows.opsCodesSpec).bare Rows.opsCodesRow = true := by kernel_rfl
theorem fact18 : (fun (P : Program) (f : FuncId) (fn : Func) (s : ChangeSpec) (c : OpenClaim) => s.vars.all (P.varReadable ·)) Tryz.checked.prog 3 Tryz.f3 (OpenSpec.ofChange Rows.opsCodesSpec).bare Rows.opsCodesRow = true := by kernel_rfl
theorem fact19 : (fun (P : Program) (f : FuncId) (fn : Func) (s : ChangeSpec) (c : OpenClaim) => fn.resultTypes.all (fun t => P.readableRec t && decide (t < P.types.size))) Tryz.checked.prog 3 Tryz.f3 (OpenSpec.ofChange Rows.opsCodesSpec).bare Rows.opsCodesRow = true := by kernel_rfl
theorem fact20 : (fun (P : Program) (f : FuncId) (fn : Func) (s : ChangeSpec) (c : OpenClaim) => (c.ifacesOut == fn.resultTypes.toList.any (P.ifacesRec ·))) Tryz.checked.prog 3 Tryz.f3 (OpenSpec.ofChange Rows.opsCodesSpec).bare Rows.opsCodesRow = true := by kernel_rfl
theorem fact21 : (fun (P : Program) (f : FuncId) (fn : Func) (s : ChangeSpec) (c : OpenClaim) => (c.loopsOut == fn.resultTypes.toList.any (P.loopsFrom ·))) Tryz.checked.prog 3 Tryz.f3 (OpenSpec.ofChange Rows.opsCodesSpec).bare Rows.opsCodesRow = true := by kernel_rfl
theorem fact22 : (fun (P : Program) (f : FuncId) (fn : Func) (s : ChangeSpec) (c : OpenClaim) => (c.plainKeys == P.plainKeys)) Tryz.checked.prog 3 Tryz.f3 (OpenSpec.ofChange Rows.opsCodesSpec).bare Rows.opsCodesRow = true := by kernel_rfl
theorem fact23 : (fun (P : Program) (f : FuncId) (fn : Func) (s : ChangeSpec) (c : OpenClaim) => c.shortTexts.isNone) Tryz.checked.prog 3 Tryz.f3 (OpenSpec.ofChange Rows.opsCodesSpec).bare Rows.opsCodesRow = true := by kernel_rfl
theorem fact24 : (fun (P : Program) (f : FuncId) (fn : Func) (s : ChangeSpec) (c : OpenClaim) => P.stopsHeard) Tryz.checked.prog 3 Tryz.f3 (OpenSpec.ofChange Rows.opsCodesSpec).bare Rows.opsCodesRow = true := by kernel_rfl
theorem fact25 : (fun (P : Program) (f : FuncId) (fn : Func) (s : ChangeSpec) (c : OpenClaim) => P.mayEnter) Tryz.checked.prog 3 Tryz.f3 (OpenSpec.ofChange Rows.opsCodesSpec).bare Rows.opsCodesRow = true := by kernel_rfl
theorem fact26 : (fun (P : Program) (f : FuncId) (fn : Func) (s : ChangeSpec) (c : OpenClaim) => (c.lifted == P.liftsFinal)) Tryz.checked.prog 3 Tryz.f3 (OpenSpec.ofChange Rows.opsCodesSpec).bare Rows.opsCodesRow = true := by kernel_rfl
theorem fact27 : (fun (P : Program) (f : FuncId) (fn : Func) (s : ChangeSpec) (c : OpenClaim) => (P.make == some c.make)) Tryz.checked.prog 3 Tryz.f3 (OpenSpec.ofChange Rows.opsCodesSpec).bare Rows.opsCodesRow = true := by kernel_rfl
theorem fact28 : (fun (P : Program) (f : FuncId) (fn : Func) (s : ChangeSpec) (c : OpenClaim) => (c.kinds == (if c.domain.isEmpty then [] else fn.params.toList.map fun t => match P.underlying t with | some (.int k) => some k | _ => none))) Tryz.checked.prog 3 Tryz.f3 (OpenSpec.ofChange Rows.opsCodesSpec).bare Rows.opsCodesRow = true := by kernel_rfl
theorem fact29 : (fun (P : Program) (f : FuncId) (fn : Func) (s : ChangeSpec) (c : OpenClaim) => (c.pinned == c.pinnedBy)) Tryz.checked.prog 3 Tryz.f3 (OpenSpec.ofChange Rows.opsCodesSpec).bare Rows.opsCodesRow = true := by kernel_rfl
theorem fact30 : (fun (P : Program) (f : FuncId) (fn : Func) (s : ChangeSpec) (c : OpenClaim) => (c.veiled == (fn.params.toList ++ s.plain.varTypes P ++ fn.resultTypes.toList).any (P.veiledRec ·))) Tryz.checked.prog 3 Tryz.f3 (OpenSpec.ofChange Rows.opsCodesSpec).bare Rows.opsCodesRow = true := by kernel_rfl
theorem fact31 : (fun (P : Program) (f : FuncId) (fn : Func) (s : ChangeSpec) (c : OpenClaim) => c.veiledFits P fn.params.toList (fn.params.toList ++ s.plain.varTypes P ++ fn.resultTypes.toList)) Tryz.checked.prog 3 Tryz.f3 (OpenSpec.ofChange Rows.opsCodesSpec).bare Rows.opsCodesRow = true := by kernel_rfl
theorem closed : joinedFacts Tryz.checked.prog 3 Tryz.f3 (OpenSpec.ofChange Rows.opsCodesSpec).bare Rows.opsCodesRow = true := by
  unfold joinedFacts
  simp only [Bool.and_eq_true]
  exact ⟨⟨⟨⟨⟨⟨⟨⟨⟨⟨⟨⟨⟨⟨⟨⟨⟨⟨⟨⟨⟨⟨⟨⟨⟨⟨⟨⟨⟨⟨⟨fact0, fact1⟩, fact2⟩, fact3⟩, fact4⟩, fact5⟩, fact6⟩, fact7⟩, fact8⟩, fact9⟩, fact10⟩, fact11⟩, fact12⟩, fact13⟩, fact14⟩, fact15⟩, fact16⟩, fact17⟩, fact18⟩, fact19⟩, fact20⟩, fact21⟩, fact22⟩, fact23⟩, fact24⟩, fact25⟩, fact26⟩, fact27⟩, fact28⟩, fact29⟩, fact30⟩, fact31⟩
end Go.Proofs.YthmgnfeljhdioaaGreat.opsCodes
