/-
  No cell of these rows narrows 'for every input' (looked for: loops, veiled, ifaces, maps, wideKeys, modest, calm, conditions, laid).
  DERIVED. THE GIVEN ROWS OF THIS SEAT. 6 by the template 'for every input the law returns true; each argument reads behind the call as it read before'; 0 by the template 'total and deterministic' (their statements: YtnmajohhfcgddaaTotals.lean).
  GIVEN WITH THE SEED: the statements are not yours to turn. If you find one false, say at which input.
  Laid BY PROGRAM, IN A SANDBOX (cutbox-rows.mjs): the forced cells as the released guide's own fill.sh prints them over the translation 7aee672d3777a4c2… (all of the seat's roots in one cut). By AI agents, Wed Nov 11 2026. No macro, syntax, notation, axiom, sorry.
-/
import Derived.Test.YtnmajohhfcgddaaChecked
import GoSem.Claim
import GoSem.ClaimJoined
import GoSem.ClaimMapViews
import Derived.JoinedTies
import Derived.KernelRfl
namespace Go.Proofs.Ytnmajohhfcgddaa
/- THE CELL 'sum', in the pinned program and in every row, IS THE sha256 OF THE DUMP (.gsa) THAT YtnmajohhfcgddaaProg.lean LOADS. Nothing in Lean hashes anything: it is a label: what it is worth is what the hold of that sum in a sandbox is worth. -/
noncomputable def Try.pinned : Pinned := { name := "ytnmajohhfcgddaa", sum := "7aee672d3777a4c28b23a28950c900cf0fe571a4ecf8984c2124302e14ebb3c3", checked := Try.checked }
namespace Rows
def none {H : Type} : Left H := { results := [], args := [] }

/-- 'pianolalaw03.StoreWalks': WHATEVER THE INPUT: true; the input reads as it did. -/
def storeWalksSpec : ChangeSpec := { name := "storeWalks", fn := fun _ => fun
  | [d] => { results := [.lit (.bool true)], args := [d] }
  | _ => none }
def storeWalksRow : OpenClaim := { program := "ytnmajohhfcgddaa", sum := "7aee672d3777a4c28b23a28950c900cf0fe571a4ecf8984c2124302e14ebb3c3", func := "pianola/pianolalaw03.StoreWalks", spec := "storeWalks", inPlace := ["slices.overlaps[int]"], unfollowed := true, recurses := true, apart := false }
def StoreWalksSaid : Prop := storeWalksRow.holds Try.pinned (OpenSpec.ofChange storeWalksSpec)

/-- ITS FALSE NEIGHBOUR: 'it returns false'. Refute it at one input. -/
def storeWalksWrong : ChangeSpec := { name := "storeWalks", fn := fun _ => fun
  | [d] => { results := [.lit (.bool false)], args := [d] }
  | _ => none }
def StoreWalksWrongFalsely : Prop := storeWalksRow.holds Try.pinned (OpenSpec.ofChange storeWalksWrong)

/-- 'pianolalaw03.StoreUnpacks': WHATEVER THE INPUT: true; the input reads as it did. -/
def storeUnpacksSpec : ChangeSpec := { name := "storeUnpacks", fn := fun _ => fun
  | [d] => { results := [.lit (.bool true)], args := [d] }
  | _ => none }
def storeUnpacksRow : OpenClaim := { program := "ytnmajohhfcgddaa", sum := "7aee672d3777a4c28b23a28950c900cf0fe571a4ecf8984c2124302e14ebb3c3", func := "pianola/pianolalaw03.StoreUnpacks", spec := "storeUnpacks", inPlace := ["slices.overlaps[int]"], unfollowed := true, recurses := true, apart := false }
def StoreUnpacksSaid : Prop := storeUnpacksRow.holds Try.pinned (OpenSpec.ofChange storeUnpacksSpec)

/-- ITS FALSE NEIGHBOUR: 'it returns false'. Refute it at one input. -/
def storeUnpacksWrong : ChangeSpec := { name := "storeUnpacks", fn := fun _ => fun
  | [d] => { results := [.lit (.bool false)], args := [d] }
  | _ => none }
def StoreUnpacksWrongFalsely : Prop := storeUnpacksRow.holds Try.pinned (OpenSpec.ofChange storeUnpacksWrong)

/-- 'pianolalaw03.StoreSame': WHATEVER THE INPUT: true; the input reads as it did. -/
def storeSameSpec : ChangeSpec := { name := "storeSame", fn := fun _ => fun
  | [d] => { results := [.lit (.bool true)], args := [d] }
  | _ => none }
def storeSameRow : OpenClaim := { program := "ytnmajohhfcgddaa", sum := "7aee672d3777a4c28b23a28950c900cf0fe571a4ecf8984c2124302e14ebb3c3", func := "pianola/pianolalaw03.StoreSame", spec := "storeSame", inPlace := ["slices.overlaps[int]"], unfollowed := true, recurses := true, apart := false }
def StoreSameSaid : Prop := storeSameRow.holds Try.pinned (OpenSpec.ofChange storeSameSpec)

/-- ITS FALSE NEIGHBOUR: 'it returns false'. Refute it at one input. -/
def storeSameWrong : ChangeSpec := { name := "storeSame", fn := fun _ => fun
  | [d] => { results := [.lit (.bool false)], args := [d] }
  | _ => none }
def StoreSameWrongFalsely : Prop := storeSameRow.holds Try.pinned (OpenSpec.ofChange storeSameWrong)

/-- 'pianolalaw03.StoreFull': WHATEVER THE INPUT: true; the input reads as it did. -/
def storeFullSpec : ChangeSpec := { name := "storeFull", fn := fun _ => fun
  | [d1, d2] => { results := [.lit (.bool true)], args := [d1, d2] }
  | _ => none }
def storeFullRow : OpenClaim := { program := "ytnmajohhfcgddaa", sum := "7aee672d3777a4c28b23a28950c900cf0fe571a4ecf8984c2124302e14ebb3c3", func := "pianola/pianolalaw03.StoreFull", spec := "storeFull", inPlace := ["slices.overlaps[int]"], unfollowed := true, recurses := true, apart := false }
def StoreFullSaid : Prop := storeFullRow.holds Try.pinned (OpenSpec.ofChange storeFullSpec)

/-- ITS FALSE NEIGHBOUR: 'it returns false'. Refute it at one input. -/
def storeFullWrong : ChangeSpec := { name := "storeFull", fn := fun _ => fun
  | [d1, d2] => { results := [.lit (.bool false)], args := [d1, d2] }
  | _ => none }
def StoreFullWrongFalsely : Prop := storeFullRow.holds Try.pinned (OpenSpec.ofChange storeFullWrong)

/-- 'pianolalaw03.StoreNobody': WHATEVER THE INPUT: true; the input reads as it did. -/
def storeNobodySpec : ChangeSpec := { name := "storeNobody", fn := fun _ => fun
  | [d] => { results := [.lit (.bool true)], args := [d] }
  | _ => none }
def storeNobodyRow : OpenClaim := { program := "ytnmajohhfcgddaa", sum := "7aee672d3777a4c28b23a28950c900cf0fe571a4ecf8984c2124302e14ebb3c3", func := "pianola/pianolalaw03.StoreNobody", spec := "storeNobody", inPlace := ["slices.overlaps[int]"], unfollowed := true, recurses := true, apart := false }
def StoreNobodySaid : Prop := storeNobodyRow.holds Try.pinned (OpenSpec.ofChange storeNobodySpec)

/-- ITS FALSE NEIGHBOUR: 'it returns false'. Refute it at one input. -/
def storeNobodyWrong : ChangeSpec := { name := "storeNobody", fn := fun _ => fun
  | [d] => { results := [.lit (.bool false)], args := [d] }
  | _ => none }
def StoreNobodyWrongFalsely : Prop := storeNobodyRow.holds Try.pinned (OpenSpec.ofChange storeNobodyWrong)

/-- 'pianolalaw03.StoreDoes': WHATEVER THE INPUT: true; the input reads as it did. -/
def storeDoesSpec : ChangeSpec := { name := "storeDoes", fn := fun _ => fun
  | [d1, d2] => { results := [.lit (.bool true)], args := [d1, d2] }
  | _ => none }
def storeDoesRow : OpenClaim := { program := "ytnmajohhfcgddaa", sum := "7aee672d3777a4c28b23a28950c900cf0fe571a4ecf8984c2124302e14ebb3c3", func := "pianola/pianolalaw03.StoreDoes", spec := "storeDoes", inPlace := ["slices.overlaps[int]"], unfollowed := true, recurses := true, apart := false }
def StoreDoesSaid : Prop := storeDoesRow.holds Try.pinned (OpenSpec.ofChange storeDoesSpec)

/-- ITS FALSE NEIGHBOUR: 'it returns false'. Refute it at one input. -/
def storeDoesWrong : ChangeSpec := { name := "storeDoes", fn := fun _ => fun
  | [d1, d2] => { results := [.lit (.bool false)], args := [d1, d2] }
  | _ => none }
def StoreDoesWrongFalsely : Prop := storeDoesRow.holds Try.pinned (OpenSpec.ofChange storeDoesWrong)

/- THE SECOND FORM. 'bulk': how many values and letters a reading holds, each counted each time it is reached (what is shared counts as often as it is met; a slice's spare places count too). A statement '..UptoSaid' is the law's where the arguments, and the package variables that the reading takes, are together of bulk at most 1048576: NARROWER than '..Said'. Prove '..Said' where nothing that the law and all that it calls make is longer than what came in: it says more and counts as full. Else prove '..UptoSaid'. A law counts once. -/
mutual
def uptoBulk {H : Type} : DataW H → Nat
  | .lit (.string bytes) => bytes.length + 1
  | .lit _ => 1
  | .nil => 1
  | .ptr d => uptoBulk d + 1
  | .slice elems spare => uptoBulkAll elems + uptoBulkAll spare + 1
  | .agg parts => uptoBulkAll parts + 1
  | .iface _ d => uptoBulk d + 1
  | .map entries => uptoBulkEntries entries + 1
  | .held _ => 1
def uptoBulkAll {H : Type} : List (DataW H) → Nat
  | [] => 0
  | d :: r => uptoBulk d + uptoBulkAll r
def uptoBulkEntries {H : Type} : List (Lit × DataW H) → Nat
  | [] => 0
  | x :: r => uptoBulkEntry x + uptoBulkEntries r
def uptoBulkEntry {H : Type} : Lit × DataW H → Nat
  | (.string bytes, d) => bytes.length + uptoBulk d + 1
  | (_, d) => uptoBulk d + 1
 end
def uptoSmall : (H : Type) → List (DataW H) → Bool := fun _ ds => decide (uptoBulkAll ds ≤ 1048576)
def OpenSpec.upto (s : _root_.Go.ChangeSpec) : _root_.Go.OpenSpec := { _root_.Go.OpenSpec.ofChange s with cond := some uptoSmall }

/-- 'pianolalaw03.StoreWalks', WHERE WHAT IT READS IS OF BULK AT MOST 1048576: true; the input reads as it did. -/
def storeWalksUptoRow : OpenClaim := { program := "ytnmajohhfcgddaa", sum := "7aee672d3777a4c28b23a28950c900cf0fe571a4ecf8984c2124302e14ebb3c3", func := "pianola/pianolalaw03.StoreWalks", spec := "storeWalks", inPlace := ["slices.overlaps[int]"], unfollowed := true, recurses := true, apart := false, narrowed := true }
def StoreWalksUptoSaid : Prop := storeWalksUptoRow.holds Try.pinned (OpenSpec.upto storeWalksSpec)

/-- 'pianolalaw03.StoreUnpacks', WHERE WHAT IT READS IS OF BULK AT MOST 1048576: true; the input reads as it did. -/
def storeUnpacksUptoRow : OpenClaim := { program := "ytnmajohhfcgddaa", sum := "7aee672d3777a4c28b23a28950c900cf0fe571a4ecf8984c2124302e14ebb3c3", func := "pianola/pianolalaw03.StoreUnpacks", spec := "storeUnpacks", inPlace := ["slices.overlaps[int]"], unfollowed := true, recurses := true, apart := false, narrowed := true }
def StoreUnpacksUptoSaid : Prop := storeUnpacksUptoRow.holds Try.pinned (OpenSpec.upto storeUnpacksSpec)

/-- 'pianolalaw03.StoreSame', WHERE WHAT IT READS IS OF BULK AT MOST 1048576: true; the input reads as it did. -/
def storeSameUptoRow : OpenClaim := { program := "ytnmajohhfcgddaa", sum := "7aee672d3777a4c28b23a28950c900cf0fe571a4ecf8984c2124302e14ebb3c3", func := "pianola/pianolalaw03.StoreSame", spec := "storeSame", inPlace := ["slices.overlaps[int]"], unfollowed := true, recurses := true, apart := false, narrowed := true }
def StoreSameUptoSaid : Prop := storeSameUptoRow.holds Try.pinned (OpenSpec.upto storeSameSpec)

/-- 'pianolalaw03.StoreFull', WHERE WHAT IT READS IS OF BULK AT MOST 1048576: true; the input reads as it did. -/
def storeFullUptoRow : OpenClaim := { program := "ytnmajohhfcgddaa", sum := "7aee672d3777a4c28b23a28950c900cf0fe571a4ecf8984c2124302e14ebb3c3", func := "pianola/pianolalaw03.StoreFull", spec := "storeFull", inPlace := ["slices.overlaps[int]"], unfollowed := true, recurses := true, apart := false, narrowed := true }
def StoreFullUptoSaid : Prop := storeFullUptoRow.holds Try.pinned (OpenSpec.upto storeFullSpec)

/-- 'pianolalaw03.StoreNobody', WHERE WHAT IT READS IS OF BULK AT MOST 1048576: true; the input reads as it did. -/
def storeNobodyUptoRow : OpenClaim := { program := "ytnmajohhfcgddaa", sum := "7aee672d3777a4c28b23a28950c900cf0fe571a4ecf8984c2124302e14ebb3c3", func := "pianola/pianolalaw03.StoreNobody", spec := "storeNobody", inPlace := ["slices.overlaps[int]"], unfollowed := true, recurses := true, apart := false, narrowed := true }
def StoreNobodyUptoSaid : Prop := storeNobodyUptoRow.holds Try.pinned (OpenSpec.upto storeNobodySpec)

/-- 'pianolalaw03.StoreDoes', WHERE WHAT IT READS IS OF BULK AT MOST 1048576: true; the input reads as it did. -/
def storeDoesUptoRow : OpenClaim := { program := "ytnmajohhfcgddaa", sum := "7aee672d3777a4c28b23a28950c900cf0fe571a4ecf8984c2124302e14ebb3c3", func := "pianola/pianolalaw03.StoreDoes", spec := "storeDoes", inPlace := ["slices.overlaps[int]"], unfollowed := true, recurses := true, apart := false, narrowed := true }
def StoreDoesUptoSaid : Prop := storeDoesUptoRow.holds Try.pinned (OpenSpec.upto storeDoesSpec)

end Rows
end Go.Proofs.Ytnmajohhfcgddaa
