/-
  No cell of these rows narrows 'for every input' (looked for: loops, veiled, ifaces, maps, wideKeys, modest, calm, conditions, laid).
  DERIVED. THE GIVEN ROWS OF THIS SEAT. 2 by the template 'for every input the law returns true; each argument reads behind the call as it read before'; 0 by the template 'total and deterministic' (their statements: YteehmgfoclhokaaGreatTotals.lean).
  GIVEN WITH THE SEED: the statements are not yours to turn. If you find one false, say at which input.
  Laid BY PROGRAM, IN A SANDBOX (cutbox-rows.mjs): the forced cells as the released guide's own fill.sh prints them over the translation 32a0a18fc89bed60… (all of the seat's roots in one cut). By AI agents, Wed Nov 11 2026. No macro, syntax, notation, axiom, sorry.
-/
import Derived.Test.YteehmgfoclhokaaGreatChecked
import GoSem.Claim
import GoSem.ClaimJoined
import GoSem.ClaimMapViews
import Derived.JoinedTies
import Derived.KernelRfl
namespace Go.Proofs.YteehmgfoclhokaaGreat
/- THE CELL 'sum', in the pinned program and in every row, IS THE sha256 OF THE DUMP (.gsa) THAT YteehmgfoclhokaaGreatProg.lean LOADS. Nothing in Lean hashes anything: it is a label: what it is worth is what the hold of that sum in a sandbox is worth. -/
noncomputable def Tryz.pinned : Pinned := { name := "yteehmgfoclhokaagreat", sum := "32a0a18fc89bed609408dbad688ce964f2b61d1a004f68731594c60e66051fad", checked := Tryz.checked }
namespace Rows
def none {H : Type} : Left H := { results := [], args := [] }

/-- 'pianolalaw24.ClusterCircles': WHATEVER THE INPUT: true; the input reads as it did. -/
def clusterCirclesSpec : ChangeSpec := { name := "clusterCircles", fn := fun _ => fun
  | [d] => { results := [.lit (.bool true)], args := [d] }
  | _ => none }
def clusterCirclesRow : OpenClaim := { program := "yteehmgfoclhokaagreat", sum := "32a0a18fc89bed609408dbad688ce964f2b61d1a004f68731594c60e66051fad", func := "pianola/pianolalaw24.ClusterCircles", spec := "clusterCircles", inPlace := ["internal/bytealg.IndexByteString", "internal/bytealg.IndexString", "slices.overlaps[int]"], unfollowed := true, recurses := true, named := ["internal/bytealg.MaxLen"], plainKeys := false, apart := false }
def ClusterCirclesSaid : Prop := clusterCirclesRow.holds Tryz.pinned (OpenSpec.ofChange clusterCirclesSpec)

/-- ITS FALSE NEIGHBOUR: 'it returns false'. Refute it at one input. -/
def clusterCirclesWrong : ChangeSpec := { name := "clusterCircles", fn := fun _ => fun
  | [d] => { results := [.lit (.bool false)], args := [d] }
  | _ => none }
def ClusterCirclesWrongFalsely : Prop := clusterCirclesRow.holds Tryz.pinned (OpenSpec.ofChange clusterCirclesWrong)

/-- 'pianolalaw24.ClusterNobody': WHATEVER THE INPUT: true; the input reads as it did. -/
def clusterNobodySpec : ChangeSpec := { name := "clusterNobody", fn := fun _ => fun
  | [d] => { results := [.lit (.bool true)], args := [d] }
  | _ => none }
def clusterNobodyRow : OpenClaim := { program := "yteehmgfoclhokaagreat", sum := "32a0a18fc89bed609408dbad688ce964f2b61d1a004f68731594c60e66051fad", func := "pianola/pianolalaw24.ClusterNobody", spec := "clusterNobody", inPlace := ["internal/bytealg.IndexByteString", "internal/bytealg.IndexString", "slices.overlaps[int]"], unfollowed := true, recurses := true, named := ["internal/bytealg.MaxLen"], plainKeys := false, apart := false }
def ClusterNobodySaid : Prop := clusterNobodyRow.holds Tryz.pinned (OpenSpec.ofChange clusterNobodySpec)

/-- ITS FALSE NEIGHBOUR: 'it returns false'. Refute it at one input. -/
def clusterNobodyWrong : ChangeSpec := { name := "clusterNobody", fn := fun _ => fun
  | [d] => { results := [.lit (.bool false)], args := [d] }
  | _ => none }
def ClusterNobodyWrongFalsely : Prop := clusterNobodyRow.holds Tryz.pinned (OpenSpec.ofChange clusterNobodyWrong)

/- THE SECOND FORM. 'bulk': how many values and letters a reading holds, each counted each time it is reached (what is shared counts as often as it is met; a slice's spare places count too). A statement '..UptoSaid' is the law's where the arguments, and the package variables that the reading takes, are together of bulk at most 1048576: NARROWER than '..Said'. Prove '..Said' where nothing that the law and all that it calls make is longer than what came in: it says more and counts as full. Else prove '..UptoSaid'. A law counts once. -/
mutual
def uptoBulk {H : Type} : DataW H → Nat
  | .lit (.string bytes) => bytes.length + 1
  | .lit _ => 1
  | .nil => 1
  | .ptr d => uptoBulk d + 1
  | .slice elems spare => uptoBulkAll elems + uptoBulkAll spare + 1
  | .agg parts => uptoBulkAll parts + 1
  | .iface _ d => uptoBulk d + 1
  | .map entries => uptoBulkEntries entries + 1
  | .held _ => 1
def uptoBulkAll {H : Type} : List (DataW H) → Nat
  | [] => 0
  | d :: r => uptoBulk d + uptoBulkAll r
def uptoBulkEntries {H : Type} : List (Lit × DataW H) → Nat
  | [] => 0
  | x :: r => uptoBulkEntry x + uptoBulkEntries r
def uptoBulkEntry {H : Type} : Lit × DataW H → Nat
  | (.string bytes, d) => bytes.length + uptoBulk d + 1
  | (_, d) => uptoBulk d + 1
 end
def uptoSmall : (H : Type) → List (DataW H) → Bool := fun _ ds => decide (uptoBulkAll ds ≤ 1048576)
def OpenSpec.upto (s : _root_.Go.ChangeSpec) : _root_.Go.OpenSpec := { _root_.Go.OpenSpec.ofChange s with cond := some uptoSmall }

/-- 'pianolalaw24.ClusterCircles', WHERE WHAT IT READS IS OF BULK AT MOST 1048576: true; the input reads as it did. -/
def clusterCirclesUptoRow : OpenClaim := { program := "yteehmgfoclhokaagreat", sum := "32a0a18fc89bed609408dbad688ce964f2b61d1a004f68731594c60e66051fad", func := "pianola/pianolalaw24.ClusterCircles", spec := "clusterCircles", inPlace := ["internal/bytealg.IndexByteString", "internal/bytealg.IndexString", "slices.overlaps[int]"], unfollowed := true, recurses := true, named := ["internal/bytealg.MaxLen"], plainKeys := false, apart := false, narrowed := true }
def ClusterCirclesUptoSaid : Prop := clusterCirclesUptoRow.holds Tryz.pinned (OpenSpec.upto clusterCirclesSpec)

/-- 'pianolalaw24.ClusterNobody', WHERE WHAT IT READS IS OF BULK AT MOST 1048576: true; the input reads as it did. -/
def clusterNobodyUptoRow : OpenClaim := { program := "yteehmgfoclhokaagreat", sum := "32a0a18fc89bed609408dbad688ce964f2b61d1a004f68731594c60e66051fad", func := "pianola/pianolalaw24.ClusterNobody", spec := "clusterNobody", inPlace := ["internal/bytealg.IndexByteString", "internal/bytealg.IndexString", "slices.overlaps[int]"], unfollowed := true, recurses := true, named := ["internal/bytealg.MaxLen"], plainKeys := false, apart := false, narrowed := true }
def ClusterNobodyUptoSaid : Prop := clusterNobodyUptoRow.holds Tryz.pinned (OpenSpec.upto clusterNobodySpec)

end Rows
end Go.Proofs.YteehmgfoclhokaaGreat
