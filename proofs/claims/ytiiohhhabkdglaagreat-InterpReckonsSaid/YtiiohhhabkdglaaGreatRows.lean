/-
  No cell of these rows narrows 'for every input' (looked for: loops, veiled, ifaces, maps, wideKeys, modest, calm, conditions, laid).
  DERIVED. THE GIVEN ROWS OF THIS SEAT. 5 by the template 'for every input the law returns true; each argument reads behind the call as it read before'; 0 by the template 'total and deterministic' (their statements: YtiiohhhabkdglaaGreatTotals.lean).
  GIVEN WITH THE SEED: the statements are not yours to turn. If you find one false, say at which input.
  Laid BY PROGRAM, IN A SANDBOX (cutbox-rows.mjs): the forced cells as the released guide's own fill.sh prints them over the translation 268dfdaa2edda5c7… (all of the seat's roots in one cut). By AI agents, Wed Nov 11 2026. No macro, syntax, notation, axiom, sorry.
-/
import Derived.Test.YtiiohhhabkdglaaGreatChecked
import GoSem.Claim
import GoSem.ClaimJoined
import GoSem.ClaimMapViews
import Derived.JoinedTies
import Derived.KernelRfl
namespace Go.Proofs.YtiiohhhabkdglaaGreat
/- THE CELL 'sum', in the pinned program and in every row, IS THE sha256 OF THE DUMP (.gsa) THAT YtiiohhhabkdglaaGreatProg.lean LOADS. Nothing in Lean hashes anything: it is a label: what it is worth is what the hold of that sum in a sandbox is worth. -/
noncomputable def Tryz.pinned : Pinned := { name := "ytiiohhhabkdglaagreat", sum := "268dfdaa2edda5c781cbb73647f775d30febc81332e3dbe28901c7438f4f0f14", checked := Tryz.checked }
namespace Rows
def none {H : Type} : Left H := { results := [], args := [] }

/-- 'pianolalaw11.InterpReckons': WHATEVER THE INPUT: true; the input reads as it did. -/
def interpReckonsSpec : ChangeSpec := { name := "interpReckons", fn := fun _ => fun
  | [d1, d2, d3] => { results := [.lit (.bool true)], args := [d1, d2, d3] }
  | _ => none }
def interpReckonsRow : OpenClaim := { program := "ytiiohhhabkdglaagreat", sum := "268dfdaa2edda5c781cbb73647f775d30febc81332e3dbe28901c7438f4f0f14", func := "pianola/pianolalaw11.InterpReckons", spec := "interpReckons", inPlace := ["slices.overlaps[int]"], unfollowed := true, recurses := true, apart := false }
def InterpReckonsSaid : Prop := interpReckonsRow.holds Tryz.pinned (OpenSpec.ofChange interpReckonsSpec)

/-- ITS FALSE NEIGHBOUR: 'it returns false'. Refute it at one input. -/
def interpReckonsWrong : ChangeSpec := { name := "interpReckons", fn := fun _ => fun
  | [d1, d2, d3] => { results := [.lit (.bool false)], args := [d1, d2, d3] }
  | _ => none }
def InterpReckonsWrongFalsely : Prop := interpReckonsRow.holds Tryz.pinned (OpenSpec.ofChange interpReckonsWrong)

/-- 'pianolalaw11.InterpSame': WHATEVER THE INPUT: true; the input reads as it did. -/
def interpSameSpec : ChangeSpec := { name := "interpSame", fn := fun _ => fun
  | [d1, d2, d3, d4, d5] => { results := [.lit (.bool true)], args := [d1, d2, d3, d4, d5] }
  | _ => none }
def interpSameRow : OpenClaim := { program := "ytiiohhhabkdglaagreat", sum := "268dfdaa2edda5c781cbb73647f775d30febc81332e3dbe28901c7438f4f0f14", func := "pianola/pianolalaw11.InterpSame", spec := "interpSame", inPlace := ["slices.overlaps[int]"], unfollowed := true, recurses := true, apart := false }
def InterpSameSaid : Prop := interpSameRow.holds Tryz.pinned (OpenSpec.ofChange interpSameSpec)

/-- ITS FALSE NEIGHBOUR: 'it returns false'. Refute it at one input. -/
def interpSameWrong : ChangeSpec := { name := "interpSame", fn := fun _ => fun
  | [d1, d2, d3, d4, d5] => { results := [.lit (.bool false)], args := [d1, d2, d3, d4, d5] }
  | _ => none }
def InterpSameWrongFalsely : Prop := interpSameRow.holds Tryz.pinned (OpenSpec.ofChange interpSameWrong)

/-- 'pianolalaw11.InterpProofs': WHATEVER THE INPUT: true; the input reads as it did. -/
def interpProofsSpec : ChangeSpec := { name := "interpProofs", fn := fun _ => fun
  | [d1, d2, d3, d4] => { results := [.lit (.bool true)], args := [d1, d2, d3, d4] }
  | _ => none }
def interpProofsRow : OpenClaim := { program := "ytiiohhhabkdglaagreat", sum := "268dfdaa2edda5c781cbb73647f775d30febc81332e3dbe28901c7438f4f0f14", func := "pianola/pianolalaw11.InterpProofs", spec := "interpProofs", inPlace := ["slices.overlaps[int]"], unfollowed := true, recurses := true, apart := false }
def InterpProofsSaid : Prop := interpProofsRow.holds Tryz.pinned (OpenSpec.ofChange interpProofsSpec)

/-- ITS FALSE NEIGHBOUR: 'it returns false'. Refute it at one input. -/
def interpProofsWrong : ChangeSpec := { name := "interpProofs", fn := fun _ => fun
  | [d1, d2, d3, d4] => { results := [.lit (.bool false)], args := [d1, d2, d3, d4] }
  | _ => none }
def InterpProofsWrongFalsely : Prop := interpProofsRow.holds Tryz.pinned (OpenSpec.ofChange interpProofsWrong)

/-- 'pianolalaw11.InterpDeep': WHATEVER THE INPUT: true; the input reads as it did. -/
def interpDeepSpec : ChangeSpec := { name := "interpDeep", fn := fun _ => fun
  | [d] => { results := [.lit (.bool true)], args := [d] }
  | _ => none }
def interpDeepRow : OpenClaim := { program := "ytiiohhhabkdglaagreat", sum := "268dfdaa2edda5c781cbb73647f775d30febc81332e3dbe28901c7438f4f0f14", func := "pianola/pianolalaw11.InterpDeep", spec := "interpDeep", inPlace := ["slices.overlaps[int]"], unfollowed := true, recurses := true, apart := false }
def InterpDeepSaid : Prop := interpDeepRow.holds Tryz.pinned (OpenSpec.ofChange interpDeepSpec)

/-- ITS FALSE NEIGHBOUR: 'it returns false'. Refute it at one input. -/
def interpDeepWrong : ChangeSpec := { name := "interpDeep", fn := fun _ => fun
  | [d] => { results := [.lit (.bool false)], args := [d] }
  | _ => none }
def InterpDeepWrongFalsely : Prop := interpDeepRow.holds Tryz.pinned (OpenSpec.ofChange interpDeepWrong)

/-- 'pianolalaw11.InterpPays': WHATEVER THE INPUT: true; the input reads as it did. -/
def interpPaysSpec : ChangeSpec := { name := "interpPays", fn := fun _ => fun
  | [d1, d2, d3, d4] => { results := [.lit (.bool true)], args := [d1, d2, d3, d4] }
  | _ => none }
def interpPaysRow : OpenClaim := { program := "ytiiohhhabkdglaagreat", sum := "268dfdaa2edda5c781cbb73647f775d30febc81332e3dbe28901c7438f4f0f14", func := "pianola/pianolalaw11.InterpPays", spec := "interpPays", inPlace := ["slices.overlaps[int]"], unfollowed := true, recurses := true, apart := false }
def InterpPaysSaid : Prop := interpPaysRow.holds Tryz.pinned (OpenSpec.ofChange interpPaysSpec)

/-- ITS FALSE NEIGHBOUR: 'it returns false'. Refute it at one input. -/
def interpPaysWrong : ChangeSpec := { name := "interpPays", fn := fun _ => fun
  | [d1, d2, d3, d4] => { results := [.lit (.bool false)], args := [d1, d2, d3, d4] }
  | _ => none }
def InterpPaysWrongFalsely : Prop := interpPaysRow.holds Tryz.pinned (OpenSpec.ofChange interpPaysWrong)

/- THE SECOND FORM. 'bulk': how many values and letters a reading holds, each counted each time it is reached (what is shared counts as often as it is met; a slice's spare places count too). A statement '..UptoSaid' is the law's where the arguments, and the package variables that the reading takes, are together of bulk at most 1048576: NARROWER than '..Said'. Prove '..Said' where nothing that the law and all that it calls make is longer than what came in: it says more and counts as full. Else prove '..UptoSaid'. A law counts once. -/
mutual
def uptoBulk {H : Type} : DataW H → Nat
  | .lit (.string bytes) => bytes.length + 1
  | .lit _ => 1
  | .nil => 1
  | .ptr d => uptoBulk d + 1
  | .slice elems spare => uptoBulkAll elems + uptoBulkAll spare + 1
  | .agg parts => uptoBulkAll parts + 1
  | .iface _ d => uptoBulk d + 1
  | .map entries => uptoBulkEntries entries + 1
  | .held _ => 1
def uptoBulkAll {H : Type} : List (DataW H) → Nat
  | [] => 0
  | d :: r => uptoBulk d + uptoBulkAll r
def uptoBulkEntries {H : Type} : List (Lit × DataW H) → Nat
  | [] => 0
  | x :: r => uptoBulkEntry x + uptoBulkEntries r
def uptoBulkEntry {H : Type} : Lit × DataW H → Nat
  | (.string bytes, d) => bytes.length + uptoBulk d + 1
  | (_, d) => uptoBulk d + 1
 end
def uptoSmall : (H : Type) → List (DataW H) → Bool := fun _ ds => decide (uptoBulkAll ds ≤ 1048576)
def OpenSpec.upto (s : _root_.Go.ChangeSpec) : _root_.Go.OpenSpec := { _root_.Go.OpenSpec.ofChange s with cond := some uptoSmall }

/-- 'pianolalaw11.InterpReckons', WHERE WHAT IT READS IS OF BULK AT MOST 1048576: true; the input reads as it did. -/
def interpReckonsUptoRow : OpenClaim := { program := "ytiiohhhabkdglaagreat", sum := "268dfdaa2edda5c781cbb73647f775d30febc81332e3dbe28901c7438f4f0f14", func := "pianola/pianolalaw11.InterpReckons", spec := "interpReckons", inPlace := ["slices.overlaps[int]"], unfollowed := true, recurses := true, apart := false, narrowed := true }
def InterpReckonsUptoSaid : Prop := interpReckonsUptoRow.holds Tryz.pinned (OpenSpec.upto interpReckonsSpec)

/-- 'pianolalaw11.InterpSame', WHERE WHAT IT READS IS OF BULK AT MOST 1048576: true; the input reads as it did. -/
def interpSameUptoRow : OpenClaim := { program := "ytiiohhhabkdglaagreat", sum := "268dfdaa2edda5c781cbb73647f775d30febc81332e3dbe28901c7438f4f0f14", func := "pianola/pianolalaw11.InterpSame", spec := "interpSame", inPlace := ["slices.overlaps[int]"], unfollowed := true, recurses := true, apart := false, narrowed := true }
def InterpSameUptoSaid : Prop := interpSameUptoRow.holds Tryz.pinned (OpenSpec.upto interpSameSpec)

/-- 'pianolalaw11.InterpProofs', WHERE WHAT IT READS IS OF BULK AT MOST 1048576: true; the input reads as it did. -/
def interpProofsUptoRow : OpenClaim := { program := "ytiiohhhabkdglaagreat", sum := "268dfdaa2edda5c781cbb73647f775d30febc81332e3dbe28901c7438f4f0f14", func := "pianola/pianolalaw11.InterpProofs", spec := "interpProofs", inPlace := ["slices.overlaps[int]"], unfollowed := true, recurses := true, apart := false, narrowed := true }
def InterpProofsUptoSaid : Prop := interpProofsUptoRow.holds Tryz.pinned (OpenSpec.upto interpProofsSpec)

/-- 'pianolalaw11.InterpDeep', WHERE WHAT IT READS IS OF BULK AT MOST 1048576: true; the input reads as it did. -/
def interpDeepUptoRow : OpenClaim := { program := "ytiiohhhabkdglaagreat", sum := "268dfdaa2edda5c781cbb73647f775d30febc81332e3dbe28901c7438f4f0f14", func := "pianola/pianolalaw11.InterpDeep", spec := "interpDeep", inPlace := ["slices.overlaps[int]"], unfollowed := true, recurses := true, apart := false, narrowed := true }
def InterpDeepUptoSaid : Prop := interpDeepUptoRow.holds Tryz.pinned (OpenSpec.upto interpDeepSpec)

/-- 'pianolalaw11.InterpPays', WHERE WHAT IT READS IS OF BULK AT MOST 1048576: true; the input reads as it did. -/
def interpPaysUptoRow : OpenClaim := { program := "ytiiohhhabkdglaagreat", sum := "268dfdaa2edda5c781cbb73647f775d30febc81332e3dbe28901c7438f4f0f14", func := "pianola/pianolalaw11.InterpPays", spec := "interpPays", inPlace := ["slices.overlaps[int]"], unfollowed := true, recurses := true, apart := false, narrowed := true }
def InterpPaysUptoSaid : Prop := interpPaysUptoRow.holds Tryz.pinned (OpenSpec.upto interpPaysSpec)

end Rows
end Go.Proofs.YtiiohhhabkdglaaGreat
