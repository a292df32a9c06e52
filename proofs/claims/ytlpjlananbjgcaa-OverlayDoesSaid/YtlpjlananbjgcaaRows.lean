/-
  No cell of these rows narrows 'for every input' (looked for: loops, veiled, ifaces, maps, wideKeys, modest, calm, conditions, laid).
  DERIVED. THE GIVEN ROWS OF THIS SEAT. 5 by the template 'for every input the law returns true; each argument reads behind the call as it read before'; 0 by the template 'total and deterministic' (their statements: YtlpjlananbjgcaaTotals.lean).
  GIVEN WITH THE SEED: the statements are not yours to turn. If you find one false, say at which input.
  Laid BY PROGRAM, IN A SANDBOX (cutbox-rows.mjs): the forced cells as the released guide's own fill.sh prints them over the translation 74ded77b65152913… (all of the seat's roots in one cut). By AI agents, Wed Nov 11 2026. No macro, syntax, notation, axiom, sorry.
-/
import Derived.Test.YtlpjlananbjgcaaChecked
import GoSem.Claim
import GoSem.ClaimJoined
import GoSem.ClaimMapViews
import Derived.JoinedTies
import Derived.KernelRfl
namespace Go.Proofs.Ytlpjlananbjgcaa
/- THE CELL 'sum', in the pinned program and in every row, IS THE sha256 OF THE DUMP (.gsa) THAT YtlpjlananbjgcaaProg.lean LOADS. Nothing in Lean hashes anything: it is a label: what it is worth is what the hold of that sum in a sandbox is worth. -/
noncomputable def Try.pinned : Pinned := { name := "ytlpjlananbjgcaa", sum := "74ded77b6515291387e6fed31b217cbb43ed35e2cbdc189ee09ccf16deaf7533", checked := Try.checked }
namespace Rows
def none {H : Type} : Left H := { results := [], args := [] }

/-- 'pianolalaw04.OverlayNobody': WHATEVER THE INPUT: true; the input reads as it did. -/
def overlayNobodySpec : ChangeSpec := { name := "overlayNobody", fn := fun _ => fun
  | [d] => { results := [.lit (.bool true)], args := [d] }
  | _ => none }
def overlayNobodyRow : OpenClaim := { program := "ytlpjlananbjgcaa", sum := "74ded77b6515291387e6fed31b217cbb43ed35e2cbdc189ee09ccf16deaf7533", func := "pianola/pianolalaw04.OverlayNobody", spec := "overlayNobody", inPlace := ["slices.overlaps[int]"], unfollowed := true, recurses := true, apart := false }
def OverlayNobodySaid : Prop := overlayNobodyRow.holds Try.pinned (OpenSpec.ofChange overlayNobodySpec)

/-- ITS FALSE NEIGHBOUR: 'it returns false'. Refute it at one input. -/
def overlayNobodyWrong : ChangeSpec := { name := "overlayNobody", fn := fun _ => fun
  | [d] => { results := [.lit (.bool false)], args := [d] }
  | _ => none }
def OverlayNobodyWrongFalsely : Prop := overlayNobodyRow.holds Try.pinned (OpenSpec.ofChange overlayNobodyWrong)

/-- 'pianolalaw04.OverlayDoes': WHATEVER THE INPUT: true; the input reads as it did. -/
def overlayDoesSpec : ChangeSpec := { name := "overlayDoes", fn := fun _ => fun
  | [d1, d2, d3] => { results := [.lit (.bool true)], args := [d1, d2, d3] }
  | _ => none }
def overlayDoesRow : OpenClaim := { program := "ytlpjlananbjgcaa", sum := "74ded77b6515291387e6fed31b217cbb43ed35e2cbdc189ee09ccf16deaf7533", func := "pianola/pianolalaw04.OverlayDoes", spec := "overlayDoes", inPlace := ["slices.overlaps[int]"], unfollowed := true, recurses := true, apart := false }
def OverlayDoesSaid : Prop := overlayDoesRow.holds Try.pinned (OpenSpec.ofChange overlayDoesSpec)

/-- ITS FALSE NEIGHBOUR: 'it returns false'. Refute it at one input. -/
def overlayDoesWrong : ChangeSpec := { name := "overlayDoes", fn := fun _ => fun
  | [d1, d2, d3] => { results := [.lit (.bool false)], args := [d1, d2, d3] }
  | _ => none }
def OverlayDoesWrongFalsely : Prop := overlayDoesRow.holds Try.pinned (OpenSpec.ofChange overlayDoesWrong)

/-- 'pianolalaw04.OverlayKeeps': WHATEVER THE INPUT: true; the input reads as it did. -/
def overlayKeepsSpec : ChangeSpec := { name := "overlayKeeps", fn := fun _ => fun
  | [d1, d2, d3] => { results := [.lit (.bool true)], args := [d1, d2, d3] }
  | _ => none }
def overlayKeepsRow : OpenClaim := { program := "ytlpjlananbjgcaa", sum := "74ded77b6515291387e6fed31b217cbb43ed35e2cbdc189ee09ccf16deaf7533", func := "pianola/pianolalaw04.OverlayKeeps", spec := "overlayKeeps", inPlace := ["slices.overlaps[int]"], unfollowed := true, recurses := true, apart := false }
def OverlayKeepsSaid : Prop := overlayKeepsRow.holds Try.pinned (OpenSpec.ofChange overlayKeepsSpec)

/-- ITS FALSE NEIGHBOUR: 'it returns false'. Refute it at one input. -/
def overlayKeepsWrong : ChangeSpec := { name := "overlayKeeps", fn := fun _ => fun
  | [d1, d2, d3] => { results := [.lit (.bool false)], args := [d1, d2, d3] }
  | _ => none }
def OverlayKeepsWrongFalsely : Prop := overlayKeepsRow.holds Try.pinned (OpenSpec.ofChange overlayKeepsWrong)

/-- 'pianolalaw04.OverlayDirect': WHATEVER THE INPUT: true; the input reads as it did. -/
def overlayDirectSpec : ChangeSpec := { name := "overlayDirect", fn := fun _ => fun
  | [d1, d2] => { results := [.lit (.bool true)], args := [d1, d2] }
  | _ => none }
def overlayDirectRow : OpenClaim := { program := "ytlpjlananbjgcaa", sum := "74ded77b6515291387e6fed31b217cbb43ed35e2cbdc189ee09ccf16deaf7533", func := "pianola/pianolalaw04.OverlayDirect", spec := "overlayDirect", inPlace := ["slices.overlaps[int]"], unfollowed := true, recurses := true, apart := false }
def OverlayDirectSaid : Prop := overlayDirectRow.holds Try.pinned (OpenSpec.ofChange overlayDirectSpec)

/-- ITS FALSE NEIGHBOUR: 'it returns false'. Refute it at one input. -/
def overlayDirectWrong : ChangeSpec := { name := "overlayDirect", fn := fun _ => fun
  | [d1, d2] => { results := [.lit (.bool false)], args := [d1, d2] }
  | _ => none }
def OverlayDirectWrongFalsely : Prop := overlayDirectRow.holds Try.pinned (OpenSpec.ofChange overlayDirectWrong)

/-- 'pianolalaw04.OverlayTwo': WHATEVER THE INPUT: true; the input reads as it did. -/
def overlayTwoSpec : ChangeSpec := { name := "overlayTwo", fn := fun _ => fun
  | [d1, d2] => { results := [.lit (.bool true)], args := [d1, d2] }
  | _ => none }
def overlayTwoRow : OpenClaim := { program := "ytlpjlananbjgcaa", sum := "74ded77b6515291387e6fed31b217cbb43ed35e2cbdc189ee09ccf16deaf7533", func := "pianola/pianolalaw04.OverlayTwo", spec := "overlayTwo", inPlace := ["slices.overlaps[int]"], unfollowed := true, recurses := true, apart := false }
def OverlayTwoSaid : Prop := overlayTwoRow.holds Try.pinned (OpenSpec.ofChange overlayTwoSpec)

/-- ITS FALSE NEIGHBOUR: 'it returns false'. Refute it at one input. -/
def overlayTwoWrong : ChangeSpec := { name := "overlayTwo", fn := fun _ => fun
  | [d1, d2] => { results := [.lit (.bool false)], args := [d1, d2] }
  | _ => none }
def OverlayTwoWrongFalsely : Prop := overlayTwoRow.holds Try.pinned (OpenSpec.ofChange overlayTwoWrong)

/- THE SECOND FORM. 'bulk': how many values and letters a reading holds, each counted each time it is reached (what is shared counts as often as it is met; a slice's spare places count too). A statement '..UptoSaid' is the law's where the arguments, and the package variables that the reading takes, are together of bulk at most 1048576: NARROWER than '..Said'. Prove '..Said' where nothing that the law and all that it calls make is longer than what came in: it says more and counts as full. Else prove '..UptoSaid'. A law counts once. -/
mutual
def uptoBulk {H : Type} : DataW H → Nat
  | .lit (.string bytes) => bytes.length + 1
  | .lit _ => 1
  | .nil => 1
  | .ptr d => uptoBulk d + 1
  | .slice elems spare => uptoBulkAll elems + uptoBulkAll spare + 1
  | .agg parts => uptoBulkAll parts + 1
  | .iface _ d => uptoBulk d + 1
  | .map entries => uptoBulkEntries entries + 1
  | .held _ => 1
def uptoBulkAll {H : Type} : List (DataW H) → Nat
  | [] => 0
  | d :: r => uptoBulk d + uptoBulkAll r
def uptoBulkEntries {H : Type} : List (Lit × DataW H) → Nat
  | [] => 0
  | x :: r => uptoBulkEntry x + uptoBulkEntries r
def uptoBulkEntry {H : Type} : Lit × DataW H → Nat
  | (.string bytes, d) => bytes.length + uptoBulk d + 1
  | (_, d) => uptoBulk d + 1
 end
def uptoSmall : (H : Type) → List (DataW H) → Bool := fun _ ds => decide (uptoBulkAll ds ≤ 1048576)
def OpenSpec.upto (s : _root_.Go.ChangeSpec) : _root_.Go.OpenSpec := { _root_.Go.OpenSpec.ofChange s with cond := some uptoSmall }

/-- 'pianolalaw04.OverlayNobody', WHERE WHAT IT READS IS OF BULK AT MOST 1048576: true; the input reads as it did. -/
def overlayNobodyUptoRow : OpenClaim := { program := "ytlpjlananbjgcaa", sum := "74ded77b6515291387e6fed31b217cbb43ed35e2cbdc189ee09ccf16deaf7533", func := "pianola/pianolalaw04.OverlayNobody", spec := "overlayNobody", inPlace := ["slices.overlaps[int]"], unfollowed := true, recurses := true, apart := false, narrowed := true }
def OverlayNobodyUptoSaid : Prop := overlayNobodyUptoRow.holds Try.pinned (OpenSpec.upto overlayNobodySpec)

/-- 'pianolalaw04.OverlayDoes', WHERE WHAT IT READS IS OF BULK AT MOST 1048576: true; the input reads as it did. -/
def overlayDoesUptoRow : OpenClaim := { program := "ytlpjlananbjgcaa", sum := "74ded77b6515291387e6fed31b217cbb43ed35e2cbdc189ee09ccf16deaf7533", func := "pianola/pianolalaw04.OverlayDoes", spec := "overlayDoes", inPlace := ["slices.overlaps[int]"], unfollowed := true, recurses := true, apart := false, narrowed := true }
def OverlayDoesUptoSaid : Prop := overlayDoesUptoRow.holds Try.pinned (OpenSpec.upto overlayDoesSpec)

/-- 'pianolalaw04.OverlayKeeps', WHERE WHAT IT READS IS OF BULK AT MOST 1048576: true; the input reads as it did. -/
def overlayKeepsUptoRow : OpenClaim := { program := "ytlpjlananbjgcaa", sum := "74ded77b6515291387e6fed31b217cbb43ed35e2cbdc189ee09ccf16deaf7533", func := "pianola/pianolalaw04.OverlayKeeps", spec := "overlayKeeps", inPlace := ["slices.overlaps[int]"], unfollowed := true, recurses := true, apart := false, narrowed := true }
def OverlayKeepsUptoSaid : Prop := overlayKeepsUptoRow.holds Try.pinned (OpenSpec.upto overlayKeepsSpec)

/-- 'pianolalaw04.OverlayDirect', WHERE WHAT IT READS IS OF BULK AT MOST 1048576: true; the input reads as it did. -/
def overlayDirectUptoRow : OpenClaim := { program := "ytlpjlananbjgcaa", sum := "74ded77b6515291387e6fed31b217cbb43ed35e2cbdc189ee09ccf16deaf7533", func := "pianola/pianolalaw04.OverlayDirect", spec := "overlayDirect", inPlace := ["slices.overlaps[int]"], unfollowed := true, recurses := true, apart := false, narrowed := true }
def OverlayDirectUptoSaid : Prop := overlayDirectUptoRow.holds Try.pinned (OpenSpec.upto overlayDirectSpec)

/-- 'pianolalaw04.OverlayTwo', WHERE WHAT IT READS IS OF BULK AT MOST 1048576: true; the input reads as it did. -/
def overlayTwoUptoRow : OpenClaim := { program := "ytlpjlananbjgcaa", sum := "74ded77b6515291387e6fed31b217cbb43ed35e2cbdc189ee09ccf16deaf7533", func := "pianola/pianolalaw04.OverlayTwo", spec := "overlayTwo", inPlace := ["slices.overlaps[int]"], unfollowed := true, recurses := true, apart := false, narrowed := true }
def OverlayTwoUptoSaid : Prop := overlayTwoUptoRow.holds Try.pinned (OpenSpec.upto overlayTwoSpec)

end Rows
end Go.Proofs.Ytlpjlananbjgcaa
