/-
  No cell of these rows narrows 'for every input' (looked for: loops, veiled, ifaces, maps, wideKeys, modest, calm, conditions, laid).
  DERIVED. THE GIVEN ROWS OF THIS SEAT. 3 by the template 'for every input the law returns true; each argument reads behind the call as it read before'; 0 by the template 'total and deterministic' (their statements: YthmgnfeljhdioaaGreatTotals.lean).
  GIVEN WITH THE SEED: the statements are not yours to turn. If you find one false, say at which input.
  Laid BY PROGRAM, IN A SANDBOX (cutbox-rows.mjs): the forced cells as the released guide's own fill.sh prints them over the translation 8415ec4c33b0b425… (all of the seat's roots in one cut). By AI agents, Wed Nov 11 2026. No macro, syntax, notation, axiom, sorry.
-/
import Derived.Test.YthmgnfeljhdioaaGreatChecked
import GoSem.Claim
import GoSem.ClaimJoined
import GoSem.ClaimMapViews
import Derived.JoinedTies
import Derived.KernelRfl
namespace Go.Proofs.YthmgnfeljhdioaaGreat
/- THE CELL 'sum', in the pinned program and in every row, IS THE sha256 OF THE DUMP (.gsa) THAT YthmgnfeljhdioaaGreatProg.lean LOADS. Nothing in Lean hashes anything: it is a label: what it is worth is what the hold of that sum in a sandbox is worth. -/
noncomputable def Tryz.pinned : Pinned := { name := "ythmgnfeljhdioaagreat", sum := "8415ec4c33b0b425f2a8bc5a109f8ee1440b1e64ba639711ad53c1c00c705c93", checked := Tryz.checked }
namespace Rows
def none {H : Type} : Left H := { results := [], args := [] }

/-- 'pianolalaw19.OpsCodes': WHATEVER THE INPUT: true; the input reads as it did. -/
def opsCodesSpec : ChangeSpec := { name := "opsCodes", fn := fun _ => fun
  | [d1, d2] => { results := [.lit (.bool true)], args := [d1, d2] }
  | _ => none }
def opsCodesRow : OpenClaim := { program := "ythmgnfeljhdioaagreat", sum := "8415ec4c33b0b425f2a8bc5a109f8ee1440b1e64ba639711ad53c1c00c705c93", func := "pianola/pianolalaw19.OpsCodes", spec := "opsCodes", inPlace := ["slices.overlaps[int]"], unfollowed := true, recurses := true, plainKeys := false, apart := false }
def OpsCodesSaid : Prop := opsCodesRow.holds Tryz.pinned (OpenSpec.ofChange opsCodesSpec)

/-- ITS FALSE NEIGHBOUR: 'it returns false'. Refute it at one input. -/
def opsCodesWrong : ChangeSpec := { name := "opsCodes", fn := fun _ => fun
  | [d1, d2] => { results := [.lit (.bool false)], args := [d1, d2] }
  | _ => none }
def OpsCodesWrongFalsely : Prop := opsCodesRow.holds Tryz.pinned (OpenSpec.ofChange opsCodesWrong)

/-- 'pianolalaw19.OpsReads': WHATEVER THE INPUT: true; the input reads as it did. -/
def opsReadsSpec : ChangeSpec := { name := "opsReads", fn := fun _ => fun
  | [d] => { results := [.lit (.bool true)], args := [d] }
  | _ => none }
def opsReadsRow : OpenClaim := { program := "ythmgnfeljhdioaagreat", sum := "8415ec4c33b0b425f2a8bc5a109f8ee1440b1e64ba639711ad53c1c00c705c93", func := "pianola/pianolalaw19.OpsReads", spec := "opsReads", inPlace := ["slices.overlaps[int]"], unfollowed := true, recurses := true, plainKeys := false, apart := false }
def OpsReadsSaid : Prop := opsReadsRow.holds Tryz.pinned (OpenSpec.ofChange opsReadsSpec)

/-- ITS FALSE NEIGHBOUR: 'it returns false'. Refute it at one input. -/
def opsReadsWrong : ChangeSpec := { name := "opsReads", fn := fun _ => fun
  | [d] => { results := [.lit (.bool false)], args := [d] }
  | _ => none }
def OpsReadsWrongFalsely : Prop := opsReadsRow.holds Tryz.pinned (OpenSpec.ofChange opsReadsWrong)

/-- 'pianolalaw19.OpsApart': WHATEVER THE INPUT: true; the input reads as it did. -/
def opsApartSpec : ChangeSpec := { name := "opsApart", fn := fun _ => fun
  | [d1, d2] => { results := [.lit (.bool true)], args := [d1, d2] }
  | _ => none }
def opsApartRow : OpenClaim := { program := "ythmgnfeljhdioaagreat", sum := "8415ec4c33b0b425f2a8bc5a109f8ee1440b1e64ba639711ad53c1c00c705c93", func := "pianola/pianolalaw19.OpsApart", spec := "opsApart", inPlace := ["slices.overlaps[int]"], unfollowed := true, recurses := true, plainKeys := false, apart := false }
def OpsApartSaid : Prop := opsApartRow.holds Tryz.pinned (OpenSpec.ofChange opsApartSpec)

/-- ITS FALSE NEIGHBOUR: 'it returns false'. Refute it at one input. -/
def opsApartWrong : ChangeSpec := { name := "opsApart", fn := fun _ => fun
  | [d1, d2] => { results := [.lit (.bool false)], args := [d1, d2] }
  | _ => none }
def OpsApartWrongFalsely : Prop := opsApartRow.holds Tryz.pinned (OpenSpec.ofChange opsApartWrong)

/- THE SECOND FORM. 'bulk': how many values and letters a reading holds, each counted each time it is reached (what is shared counts as often as it is met; a slice's spare places count too). A statement '..UptoSaid' is the law's where the arguments, and the package variables that the reading takes, are together of bulk at most 1048576: NARROWER than '..Said'. Prove '..Said' where nothing that the law and all that it calls make is longer than what came in: it says more and counts as full. Else prove '..UptoSaid'. A law counts once. -/
mutual
def uptoBulk {H : Type} : DataW H → Nat
  | .lit (.string bytes) => bytes.length + 1
  | .lit _ => 1
  | .nil => 1
  | .ptr d => uptoBulk d + 1
  | .slice elems spare => uptoBulkAll elems + uptoBulkAll spare + 1
  | .agg parts => uptoBulkAll parts + 1
  | .iface _ d => uptoBulk d + 1
  | .map entries => uptoBulkEntries entries + 1
  | .held _ => 1
def uptoBulkAll {H : Type} : List (DataW H) → Nat
  | [] => 0
  | d :: r => uptoBulk d + uptoBulkAll r
def uptoBulkEntries {H : Type} : List (Lit × DataW H) → Nat
  | [] => 0
  | x :: r => uptoBulkEntry x + uptoBulkEntries r
def uptoBulkEntry {H : Type} : Lit × DataW H → Nat
  | (.string bytes, d) => bytes.length + uptoBulk d + 1
  | (_, d) => uptoBulk d + 1
 end
def uptoSmall : (H : Type) → List (DataW H) → Bool := fun _ ds => decide (uptoBulkAll ds ≤ 1048576)
def OpenSpec.upto (s : _root_.Go.ChangeSpec) : _root_.Go.OpenSpec := { _root_.Go.OpenSpec.ofChange s with cond := some uptoSmall }

/-- 'pianolalaw19.OpsCodes', WHERE WHAT IT READS IS OF BULK AT MOST 1048576: true; the input reads as it did. -/
def opsCodesUptoRow : OpenClaim := { program := "ythmgnfeljhdioaagreat", sum := "8415ec4c33b0b425f2a8bc5a109f8ee1440b1e64ba639711ad53c1c00c705c93", func := "pianola/pianolalaw19.OpsCodes", spec := "opsCodes", inPlace := ["slices.overlaps[int]"], unfollowed := true, recurses := true, plainKeys := false, apart := false, narrowed := true }
def OpsCodesUptoSaid : Prop := opsCodesUptoRow.holds Tryz.pinned (OpenSpec.upto opsCodesSpec)

/-- 'pianolalaw19.OpsReads', WHERE WHAT IT READS IS OF BULK AT MOST 1048576: true; the input reads as it did. -/
def opsReadsUptoRow : OpenClaim := { program := "ythmgnfeljhdioaagreat", sum := "8415ec4c33b0b425f2a8bc5a109f8ee1440b1e64ba639711ad53c1c00c705c93", func := "pianola/pianolalaw19.OpsReads", spec := "opsReads", inPlace := ["slices.overlaps[int]"], unfollowed := true, recurses := true, plainKeys := false, apart := false, narrowed := true }
def OpsReadsUptoSaid : Prop := opsReadsUptoRow.holds Tryz.pinned (OpenSpec.upto opsReadsSpec)

/-- 'pianolalaw19.OpsApart', WHERE WHAT IT READS IS OF BULK AT MOST 1048576: true; the input reads as it did. -/
def opsApartUptoRow : OpenClaim := { program := "ythmgnfeljhdioaagreat", sum := "8415ec4c33b0b425f2a8bc5a109f8ee1440b1e64ba639711ad53c1c00c705c93", func := "pianola/pianolalaw19.OpsApart", spec := "opsApart", inPlace := ["slices.overlaps[int]"], unfollowed := true, recurses := true, plainKeys := false, apart := false, narrowed := true }
def OpsApartUptoSaid : Prop := opsApartUptoRow.holds Tryz.pinned (OpenSpec.upto opsApartSpec)

end Rows
end Go.Proofs.YthmgnfeljhdioaaGreat
