/-
  No cell of these rows narrows 'for every input' (looked for: loops, veiled, ifaces, maps, wideKeys, modest, calm, conditions, laid).
  DERIVED. THE GIVEN ROWS OF THIS SEAT. 2 by the template 'for every input the law returns true; each argument reads behind the call as it read before'; 0 by the template 'total and deterministic' (their statements: YtmdkppjohmfhpaaGreatTotals.lean).
  GIVEN WITH THE SEED: the statements are not yours to turn. If you find one false, say at which input.
  Laid BY PROGRAM, IN A SANDBOX (cutbox-rows.mjs): the forced cells as the released guide's own fill.sh prints them over the translation cbd3f27ad6abbc5b… (all of the seat's roots in one cut). By AI agents, Wed Nov 11 2026. No macro, syntax, notation, axiom, sorry.
-/
import Derived.Test.YtmdkppjohmfhpaaGreatChecked
import GoSem.Claim
import GoSem.ClaimJoined
import GoSem.ClaimMapViews
import Derived.JoinedTies
import Derived.KernelRfl
namespace Go.Proofs.YtmdkppjohmfhpaaGreat
/- THE CELL 'sum', in the pinned program and in every row, IS THE sha256 OF THE DUMP (.gsa) THAT YtmdkppjohmfhpaaGreatProg.lean LOADS. Nothing in Lean hashes anything: it is a label: what it is worth is what the hold of that sum in a sandbox is worth. -/
noncomputable def Tryz.pinned : Pinned := { name := "ytmdkppjohmfhpaagreat", sum := "cbd3f27ad6abbc5b77bf51e4106fe8901e0055fb77a66a93995db7eb1d61405e", checked := Tryz.checked }
namespace Rows
def none {H : Type} : Left H := { results := [], args := [] }

/-- 'pianolalaw21.TableRises': WHATEVER THE INPUT: true; the input reads as it did. -/
def tableRisesSpec : ChangeSpec := { name := "tableRises", fn := fun _ => fun
  | [d] => { results := [.lit (.bool true)], args := [d] }
  | _ => none }
def tableRisesRow : OpenClaim := { program := "ytmdkppjohmfhpaagreat", sum := "cbd3f27ad6abbc5b77bf51e4106fe8901e0055fb77a66a93995db7eb1d61405e", func := "pianola/pianolalaw21.TableRises", spec := "tableRises", unfollowed := true, recurses := true, plainKeys := false, apart := false }
def TableRisesSaid : Prop := tableRisesRow.holds Tryz.pinned (OpenSpec.ofChange tableRisesSpec)

/-- ITS FALSE NEIGHBOUR: 'it returns false'. Refute it at one input. -/
def tableRisesWrong : ChangeSpec := { name := "tableRises", fn := fun _ => fun
  | [d] => { results := [.lit (.bool false)], args := [d] }
  | _ => none }
def TableRisesWrongFalsely : Prop := tableRisesRow.holds Tryz.pinned (OpenSpec.ofChange tableRisesWrong)

/-- 'pianolalaw21.TableAnswers': WHATEVER THE INPUT: true; the input reads as it did. -/
def tableAnswersSpec : ChangeSpec := { name := "tableAnswers", fn := fun _ => fun
  | [d] => { results := [.lit (.bool true)], args := [d] }
  | _ => none }
def tableAnswersRow : OpenClaim := { program := "ytmdkppjohmfhpaagreat", sum := "cbd3f27ad6abbc5b77bf51e4106fe8901e0055fb77a66a93995db7eb1d61405e", func := "pianola/pianolalaw21.TableAnswers", spec := "tableAnswers", unfollowed := true, recurses := true, plainKeys := false, apart := false }
def TableAnswersSaid : Prop := tableAnswersRow.holds Tryz.pinned (OpenSpec.ofChange tableAnswersSpec)

/-- ITS FALSE NEIGHBOUR: 'it returns false'. Refute it at one input. -/
def tableAnswersWrong : ChangeSpec := { name := "tableAnswers", fn := fun _ => fun
  | [d] => { results := [.lit (.bool false)], args := [d] }
  | _ => none }
def TableAnswersWrongFalsely : Prop := tableAnswersRow.holds Tryz.pinned (OpenSpec.ofChange tableAnswersWrong)

/- THE SECOND FORM. 'bulk': how many values and letters a reading holds, each counted each time it is reached (what is shared counts as often as it is met; a slice's spare places count too). A statement '..UptoSaid' is the law's where the arguments, and the package variables that the reading takes, are together of bulk at most 1048576: NARROWER than '..Said'. Prove '..Said' where nothing that the law and all that it calls make is longer than what came in: it says more and counts as full. Else prove '..UptoSaid'. A law counts once. -/
mutual
def uptoBulk {H : Type} : DataW H → Nat
  | .lit (.string bytes) => bytes.length + 1
  | .lit _ => 1
  | .nil => 1
  | .ptr d => uptoBulk d + 1
  | .slice elems spare => uptoBulkAll elems + uptoBulkAll spare + 1
  | .agg parts => uptoBulkAll parts + 1
  | .iface _ d => uptoBulk d + 1
  | .map entries => uptoBulkEntries entries + 1
  | .held _ => 1
def uptoBulkAll {H : Type} : List (DataW H) → Nat
  | [] => 0
  | d :: r => uptoBulk d + uptoBulkAll r
def uptoBulkEntries {H : Type} : List (Lit × DataW H) → Nat
  | [] => 0
  | x :: r => uptoBulkEntry x + uptoBulkEntries r
def uptoBulkEntry {H : Type} : Lit × DataW H → Nat
  | (.string bytes, d) => bytes.length + uptoBulk d + 1
  | (_, d) => uptoBulk d + 1
 end
def uptoSmall : (H : Type) → List (DataW H) → Bool := fun _ ds => decide (uptoBulkAll ds ≤ 1048576)
def OpenSpec.upto (s : _root_.Go.ChangeSpec) : _root_.Go.OpenSpec := { _root_.Go.OpenSpec.ofChange s with cond := some uptoSmall }

/-- 'pianolalaw21.TableRises', WHERE WHAT IT READS IS OF BULK AT MOST 1048576: true; the input reads as it did. -/
def tableRisesUptoRow : OpenClaim := { program := "ytmdkppjohmfhpaagreat", sum := "cbd3f27ad6abbc5b77bf51e4106fe8901e0055fb77a66a93995db7eb1d61405e", func := "pianola/pianolalaw21.TableRises", spec := "tableRises", unfollowed := true, recurses := true, plainKeys := false, apart := false, narrowed := true }
def TableRisesUptoSaid : Prop := tableRisesUptoRow.holds Tryz.pinned (OpenSpec.upto tableRisesSpec)

/-- 'pianolalaw21.TableAnswers', WHERE WHAT IT READS IS OF BULK AT MOST 1048576: true; the input reads as it did. -/
def tableAnswersUptoRow : OpenClaim := { program := "ytmdkppjohmfhpaagreat", sum := "cbd3f27ad6abbc5b77bf51e4106fe8901e0055fb77a66a93995db7eb1d61405e", func := "pianola/pianolalaw21.TableAnswers", spec := "tableAnswers", unfollowed := true, recurses := true, plainKeys := false, apart := false, narrowed := true }
def TableAnswersUptoSaid : Prop := tableAnswersUptoRow.holds Tryz.pinned (OpenSpec.upto tableAnswersSpec)

end Rows
end Go.Proofs.YtmdkppjohmfhpaaGreat
