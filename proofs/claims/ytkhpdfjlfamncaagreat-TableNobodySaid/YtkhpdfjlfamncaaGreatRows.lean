/-
  No cell of these rows narrows 'for every input' (looked for: loops, veiled, ifaces, maps, wideKeys, modest, calm, conditions, laid).
  DERIVED. THE GIVEN ROWS OF THIS SEAT. 5 by the template 'for every input the law returns true; each argument reads behind the call as it read before'; 0 by the template 'total and deterministic' (their statements: YtkhpdfjlfamncaaGreatTotals.lean).
  GIVEN WITH THE SEED: the statements are not yours to turn. If you find one false, say at which input.
  Laid BY PROGRAM, IN A SANDBOX (cutbox-rows.mjs): the forced cells as the released guide's own fill.sh prints them over the translation 43be25bf36b27553… (all of the seat's roots in one cut). By AI agents, Wed Nov 11 2026. No macro, syntax, notation, axiom, sorry.
-/
import Derived.Test.YtkhpdfjlfamncaaGreatChecked
import GoSem.Claim
import GoSem.ClaimJoined
import GoSem.ClaimMapViews
import Derived.JoinedTies
import Derived.KernelRfl
namespace Go.Proofs.YtkhpdfjlfamncaaGreat
/- THE CELL 'sum', in the pinned program and in every row, IS THE sha256 OF THE DUMP (.gsa) THAT YtkhpdfjlfamncaaGreatProg.lean LOADS. Nothing in Lean hashes anything: it is a label: what it is worth is what the hold of that sum in a sandbox is worth. -/
noncomputable def Tryz.pinned : Pinned := { name := "ytkhpdfjlfamncaagreat", sum := "43be25bf36b27553a751e4493ad20ebe7abe9950379accff2774080c0d280419", checked := Tryz.checked }
namespace Rows
def none {H : Type} : Left H := { results := [], args := [] }

/-- 'pianolalaw21.TableUnpacks': WHATEVER THE INPUT: true; the input reads as it did. -/
def tableUnpacksSpec : ChangeSpec := { name := "tableUnpacks", fn := fun _ => fun
  | [d] => { results := [.lit (.bool true)], args := [d] }
  | _ => none }
def tableUnpacksRow : OpenClaim := { program := "ytkhpdfjlfamncaagreat", sum := "43be25bf36b27553a751e4493ad20ebe7abe9950379accff2774080c0d280419", func := "pianola/pianolalaw21.TableUnpacks", spec := "tableUnpacks", unfollowed := true, recurses := true, plainKeys := false, apart := false }
def TableUnpacksSaid : Prop := tableUnpacksRow.holds Tryz.pinned (OpenSpec.ofChange tableUnpacksSpec)

/-- ITS FALSE NEIGHBOUR: 'it returns false'. Refute it at one input. -/
def tableUnpacksWrong : ChangeSpec := { name := "tableUnpacks", fn := fun _ => fun
  | [d] => { results := [.lit (.bool false)], args := [d] }
  | _ => none }
def TableUnpacksWrongFalsely : Prop := tableUnpacksRow.holds Tryz.pinned (OpenSpec.ofChange tableUnpacksWrong)

/-- 'pianolalaw21.TableRises': WHATEVER THE INPUT: true; the input reads as it did. -/
def tableRisesSpec : ChangeSpec := { name := "tableRises", fn := fun _ => fun
  | [d] => { results := [.lit (.bool true)], args := [d] }
  | _ => none }
def tableRisesRow : OpenClaim := { program := "ytkhpdfjlfamncaagreat", sum := "43be25bf36b27553a751e4493ad20ebe7abe9950379accff2774080c0d280419", func := "pianola/pianolalaw21.TableRises", spec := "tableRises", unfollowed := true, recurses := true, plainKeys := false, apart := false }
def TableRisesSaid : Prop := tableRisesRow.holds Tryz.pinned (OpenSpec.ofChange tableRisesSpec)

/-- ITS FALSE NEIGHBOUR: 'it returns false'. Refute it at one input. -/
def tableRisesWrong : ChangeSpec := { name := "tableRises", fn := fun _ => fun
  | [d] => { results := [.lit (.bool false)], args := [d] }
  | _ => none }
def TableRisesWrongFalsely : Prop := tableRisesRow.holds Tryz.pinned (OpenSpec.ofChange tableRisesWrong)

/-- 'pianolalaw21.TableAnswers': WHATEVER THE INPUT: true; the input reads as it did. -/
def tableAnswersSpec : ChangeSpec := { name := "tableAnswers", fn := fun _ => fun
  | [d] => { results := [.lit (.bool true)], args := [d] }
  | _ => none }
def tableAnswersRow : OpenClaim := { program := "ytkhpdfjlfamncaagreat", sum := "43be25bf36b27553a751e4493ad20ebe7abe9950379accff2774080c0d280419", func := "pianola/pianolalaw21.TableAnswers", spec := "tableAnswers", unfollowed := true, recurses := true, plainKeys := false, apart := false }
def TableAnswersSaid : Prop := tableAnswersRow.holds Tryz.pinned (OpenSpec.ofChange tableAnswersSpec)

/-- ITS FALSE NEIGHBOUR: 'it returns false'. Refute it at one input. -/
def tableAnswersWrong : ChangeSpec := { name := "tableAnswers", fn := fun _ => fun
  | [d] => { results := [.lit (.bool false)], args := [d] }
  | _ => none }
def TableAnswersWrongFalsely : Prop := tableAnswersRow.holds Tryz.pinned (OpenSpec.ofChange tableAnswersWrong)

/-- 'pianolalaw21.TableNobody': WHATEVER THE INPUT: true; the input reads as it did. -/
def tableNobodySpec : ChangeSpec := { name := "tableNobody", fn := fun _ => fun
  | [d] => { results := [.lit (.bool true)], args := [d] }
  | _ => none }
def tableNobodyRow : OpenClaim := { program := "ytkhpdfjlfamncaagreat", sum := "43be25bf36b27553a751e4493ad20ebe7abe9950379accff2774080c0d280419", func := "pianola/pianolalaw21.TableNobody", spec := "tableNobody", inPlace := ["maps.clone"], unfollowed := true, recurses := true, plainKeys := false, apart := false }
def TableNobodySaid : Prop := tableNobodyRow.holds Tryz.pinned (OpenSpec.ofChange tableNobodySpec)

/-- ITS FALSE NEIGHBOUR: 'it returns false'. Refute it at one input. -/
def tableNobodyWrong : ChangeSpec := { name := "tableNobody", fn := fun _ => fun
  | [d] => { results := [.lit (.bool false)], args := [d] }
  | _ => none }
def TableNobodyWrongFalsely : Prop := tableNobodyRow.holds Tryz.pinned (OpenSpec.ofChange tableNobodyWrong)

/-- 'pianolalaw21.TableDoes': WHATEVER THE INPUT: true; the input reads as it did. -/
def tableDoesSpec : ChangeSpec := { name := "tableDoes", fn := fun _ => fun
  | [d] => { results := [.lit (.bool true)], args := [d] }
  | _ => none }
def tableDoesRow : OpenClaim := { program := "ytkhpdfjlfamncaagreat", sum := "43be25bf36b27553a751e4493ad20ebe7abe9950379accff2774080c0d280419", func := "pianola/pianolalaw21.TableDoes", spec := "tableDoes", inPlace := ["maps.clone"], unfollowed := true, recurses := true, plainKeys := false, apart := false }
def TableDoesSaid : Prop := tableDoesRow.holds Tryz.pinned (OpenSpec.ofChange tableDoesSpec)

/-- ITS FALSE NEIGHBOUR: 'it returns false'. Refute it at one input. -/
def tableDoesWrong : ChangeSpec := { name := "tableDoes", fn := fun _ => fun
  | [d] => { results := [.lit (.bool false)], args := [d] }
  | _ => none }
def TableDoesWrongFalsely : Prop := tableDoesRow.holds Tryz.pinned (OpenSpec.ofChange tableDoesWrong)

/- THE SECOND FORM. 'bulk': how many values and letters a reading holds, each counted each time it is reached (what is shared counts as often as it is met; a slice's spare places count too). A statement '..UptoSaid' is the law's where the arguments, and the package variables that the reading takes, are together of bulk at most 1048576: NARROWER than '..Said'. Prove '..Said' where nothing that the law and all that it calls make is longer than what came in: it says more and counts as full. Else prove '..UptoSaid'. A law counts once. -/
mutual
def uptoBulk {H : Type} : DataW H → Nat
  | .lit (.string bytes) => bytes.length + 1
  | .lit _ => 1
  | .nil => 1
  | .ptr d => uptoBulk d + 1
  | .slice elems spare => uptoBulkAll elems + uptoBulkAll spare + 1
  | .agg parts => uptoBulkAll parts + 1
  | .iface _ d => uptoBulk d + 1
  | .map entries => uptoBulkEntries entries + 1
  | .held _ => 1
def uptoBulkAll {H : Type} : List (DataW H) → Nat
  | [] => 0
  | d :: r => uptoBulk d + uptoBulkAll r
def uptoBulkEntries {H : Type} : List (Lit × DataW H) → Nat
  | [] => 0
  | x :: r => uptoBulkEntry x + uptoBulkEntries r
def uptoBulkEntry {H : Type} : Lit × DataW H → Nat
  | (.string bytes, d) => bytes.length + uptoBulk d + 1
  | (_, d) => uptoBulk d + 1
 end
def uptoSmall : (H : Type) → List (DataW H) → Bool := fun _ ds => decide (uptoBulkAll ds ≤ 1048576)
def OpenSpec.upto (s : _root_.Go.ChangeSpec) : _root_.Go.OpenSpec := { _root_.Go.OpenSpec.ofChange s with cond := some uptoSmall }

/-- 'pianolalaw21.TableUnpacks', WHERE WHAT IT READS IS OF BULK AT MOST 1048576: true; the input reads as it did. -/
def tableUnpacksUptoRow : OpenClaim := { program := "ytkhpdfjlfamncaagreat", sum := "43be25bf36b27553a751e4493ad20ebe7abe9950379accff2774080c0d280419", func := "pianola/pianolalaw21.TableUnpacks", spec := "tableUnpacks", unfollowed := true, recurses := true, plainKeys := false, apart := false, narrowed := true }
def TableUnpacksUptoSaid : Prop := tableUnpacksUptoRow.holds Tryz.pinned (OpenSpec.upto tableUnpacksSpec)

/-- 'pianolalaw21.TableRises', WHERE WHAT IT READS IS OF BULK AT MOST 1048576: true; the input reads as it did. -/
def tableRisesUptoRow : OpenClaim := { program := "ytkhpdfjlfamncaagreat", sum := "43be25bf36b27553a751e4493ad20ebe7abe9950379accff2774080c0d280419", func := "pianola/pianolalaw21.TableRises", spec := "tableRises", unfollowed := true, recurses := true, plainKeys := false, apart := false, narrowed := true }
def TableRisesUptoSaid : Prop := tableRisesUptoRow.holds Tryz.pinned (OpenSpec.upto tableRisesSpec)

/-- 'pianolalaw21.TableAnswers', WHERE WHAT IT READS IS OF BULK AT MOST 1048576: true; the input reads as it did. -/
def tableAnswersUptoRow : OpenClaim := { program := "ytkhpdfjlfamncaagreat", sum := "43be25bf36b27553a751e4493ad20ebe7abe9950379accff2774080c0d280419", func := "pianola/pianolalaw21.TableAnswers", spec := "tableAnswers", unfollowed := true, recurses := true, plainKeys := false, apart := false, narrowed := true }
def TableAnswersUptoSaid : Prop := tableAnswersUptoRow.holds Tryz.pinned (OpenSpec.upto tableAnswersSpec)

/-- 'pianolalaw21.TableNobody', WHERE WHAT IT READS IS OF BULK AT MOST 1048576: true; the input reads as it did. -/
def tableNobodyUptoRow : OpenClaim := { program := "ytkhpdfjlfamncaagreat", sum := "43be25bf36b27553a751e4493ad20ebe7abe9950379accff2774080c0d280419", func := "pianola/pianolalaw21.TableNobody", spec := "tableNobody", inPlace := ["maps.clone"], unfollowed := true, recurses := true, plainKeys := false, apart := false, narrowed := true }
def TableNobodyUptoSaid : Prop := tableNobodyUptoRow.holds Tryz.pinned (OpenSpec.upto tableNobodySpec)

/-- 'pianolalaw21.TableDoes', WHERE WHAT IT READS IS OF BULK AT MOST 1048576: true; the input reads as it did. -/
def tableDoesUptoRow : OpenClaim := { program := "ytkhpdfjlfamncaagreat", sum := "43be25bf36b27553a751e4493ad20ebe7abe9950379accff2774080c0d280419", func := "pianola/pianolalaw21.TableDoes", spec := "tableDoes", inPlace := ["maps.clone"], unfollowed := true, recurses := true, plainKeys := false, apart := false, narrowed := true }
def TableDoesUptoSaid : Prop := tableDoesUptoRow.holds Tryz.pinned (OpenSpec.upto tableDoesSpec)

end Rows
end Go.Proofs.YtkhpdfjlfamncaaGreat
