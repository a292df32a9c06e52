/-
  No cell of these rows narrows 'for every input' (looked for: loops, veiled, ifaces, maps, wideKeys, modest, calm, conditions, laid).
  DERIVED. THE GIVEN ROWS OF THIS SEAT. 2 by the template 'for every input the law returns true; each argument reads behind the call as it read before'; 0 by the template 'total and deterministic' (their statements: YtffgmngdgkpflaaGreatTotals.lean).
  GIVEN WITH THE SEED: the statements are not yours to turn. If you find one false, say at which input.
  Laid BY PROGRAM, IN A SANDBOX (cutbox-rows.mjs): the forced cells as the released guide's own fill.sh prints them over the translation d9fa589cb38c27d2… (all of the seat's roots in one cut). By AI agents, Wed Nov 11 2026. No macro, syntax, notation, axiom, sorry.
-/
import Derived.Test.YtffgmngdgkpflaaGreatChecked
import GoSem.Claim
import GoSem.ClaimJoined
import GoSem.ClaimMapViews
import Derived.JoinedTies
import Derived.KernelRfl
namespace Go.Proofs.YtffgmngdgkpflaaGreat
/- THE CELL 'sum', in the pinned program and in every row, IS THE sha256 OF THE DUMP (.gsa) THAT YtffgmngdgkpflaaGreatProg.lean LOADS. Nothing in Lean hashes anything: it is a label: what it is worth is what the hold of that sum in a sandbox is worth. -/
noncomputable def Tryz.pinned : Pinned := { name := "ytffgmngdgkpflaagreat", sum := "d9fa589cb38c27d21d6355cefee6d9dae639d34a7c581669c3217fc490f74128", checked := Tryz.checked }
namespace Rows
def none {H : Type} : Left H := { results := [], args := [] }

/-- 'pianolalaw21.TableUnpacks': WHATEVER THE INPUT: true; the input reads as it did. -/
def tableUnpacksSpec : ChangeSpec := { name := "tableUnpacks", fn := fun _ => fun
  | [d] => { results := [.lit (.bool true)], args := [d] }
  | _ => none }
def tableUnpacksRow : OpenClaim := { program := "ytffgmngdgkpflaagreat", sum := "d9fa589cb38c27d21d6355cefee6d9dae639d34a7c581669c3217fc490f74128", func := "pianola/pianolalaw21.TableUnpacks", spec := "tableUnpacks", unfollowed := true, recurses := true, apart := false }
def TableUnpacksSaid : Prop := tableUnpacksRow.holds Tryz.pinned (OpenSpec.ofChange tableUnpacksSpec)

/-- ITS FALSE NEIGHBOUR: 'it returns false'. Refute it at one input. -/
def tableUnpacksWrong : ChangeSpec := { name := "tableUnpacks", fn := fun _ => fun
  | [d] => { results := [.lit (.bool false)], args := [d] }
  | _ => none }
def TableUnpacksWrongFalsely : Prop := tableUnpacksRow.holds Tryz.pinned (OpenSpec.ofChange tableUnpacksWrong)

/-- 'pianolalaw21.TableDoes': WHATEVER THE INPUT: true; the input reads as it did. -/
def tableDoesSpec : ChangeSpec := { name := "tableDoes", fn := fun _ => fun
  | [d] => { results := [.lit (.bool true)], args := [d] }
  | _ => none }
def tableDoesRow : OpenClaim := { program := "ytffgmngdgkpflaagreat", sum := "d9fa589cb38c27d21d6355cefee6d9dae639d34a7c581669c3217fc490f74128", func := "pianola/pianolalaw21.TableDoes", spec := "tableDoes", inPlace := ["maps.clone"], unfollowed := true, recurses := true, apart := false }
def TableDoesSaid : Prop := tableDoesRow.holds Tryz.pinned (OpenSpec.ofChange tableDoesSpec)

/-- ITS FALSE NEIGHBOUR: 'it returns false'. Refute it at one input. -/
def tableDoesWrong : ChangeSpec := { name := "tableDoes", fn := fun _ => fun
  | [d] => { results := [.lit (.bool false)], args := [d] }
  | _ => none }
def TableDoesWrongFalsely : Prop := tableDoesRow.holds Tryz.pinned (OpenSpec.ofChange tableDoesWrong)

/- THE SECOND FORM. 'bulk': how many values and letters a reading holds, each counted each time it is reached (what is shared counts as often as it is met; a slice's spare places count too). A statement '..UptoSaid' is the law's where the arguments, and the package variables that the reading takes, are together of bulk at most 1048576: NARROWER than '..Said'. Prove '..Said' where nothing that the law and all that it calls make is longer than what came in: it says more and counts as full. Else prove '..UptoSaid'. A law counts once. -/
mutual
def uptoBulk {H : Type} : DataW H → Nat
  | .lit (.string bytes) => bytes.length + 1
  | .lit _ => 1
  | .nil => 1
  | .ptr d => uptoBulk d + 1
  | .slice elems spare => uptoBulkAll elems + uptoBulkAll spare + 1
  | .agg parts => uptoBulkAll parts + 1
  | .iface _ d => uptoBulk d + 1
  | .map entries => uptoBulkEntries entries + 1
  | .held _ => 1
def uptoBulkAll {H : Type} : List (DataW H) → Nat
  | [] => 0
  | d :: r => uptoBulk d + uptoBulkAll r
def uptoBulkEntries {H : Type} : List (Lit × DataW H) → Nat
  | [] => 0
  | x :: r => uptoBulkEntry x + uptoBulkEntries r
def uptoBulkEntry {H : Type} : Lit × DataW H → Nat
  | (.string bytes, d) => bytes.length + uptoBulk d + 1
  | (_, d) => uptoBulk d + 1
 end
def uptoSmall : (H : Type) → List (DataW H) → Bool := fun _ ds => decide (uptoBulkAll ds ≤ 1048576)
def OpenSpec.upto (s : _root_.Go.ChangeSpec) : _root_.Go.OpenSpec := { _root_.Go.OpenSpec.ofChange s with cond := some uptoSmall }

/-- 'pianolalaw21.TableUnpacks', WHERE WHAT IT READS IS OF BULK AT MOST 1048576: true; the input reads as it did. -/
def tableUnpacksUptoRow : OpenClaim := { program := "ytffgmngdgkpflaagreat", sum := "d9fa589cb38c27d21d6355cefee6d9dae639d34a7c581669c3217fc490f74128", func := "pianola/pianolalaw21.TableUnpacks", spec := "tableUnpacks", unfollowed := true, recurses := true, apart := false, narrowed := true }
def TableUnpacksUptoSaid : Prop := tableUnpacksUptoRow.holds Tryz.pinned (OpenSpec.upto tableUnpacksSpec)

/-- 'pianolalaw21.TableDoes', WHERE WHAT IT READS IS OF BULK AT MOST 1048576: true; the input reads as it did. -/
def tableDoesUptoRow : OpenClaim := { program := "ytffgmngdgkpflaagreat", sum := "d9fa589cb38c27d21d6355cefee6d9dae639d34a7c581669c3217fc490f74128", func := "pianola/pianolalaw21.TableDoes", spec := "tableDoes", inPlace := ["maps.clone"], unfollowed := true, recurses := true, apart := false, narrowed := true }
def TableDoesUptoSaid : Prop := tableDoesUptoRow.holds Tryz.pinned (OpenSpec.upto tableDoesSpec)

end Rows
end Go.Proofs.YtffgmngdgkpflaaGreat
