/-
  No cell of these rows narrows 'for every input' (looked for: loops, veiled, ifaces, maps, wideKeys, modest, calm, conditions, laid).
  DERIVED. THE GIVEN ROWS OF THIS SEAT. 3 by the template 'for every input the law returns true; each argument reads behind the call as it read before'; 0 by the template 'total and deterministic' (their statements: YtiboikbccmfedaaTotals.lean).
  GIVEN WITH THE SEED: the statements are not yours to turn. If you find one false, say at which input.
  Laid BY PROGRAM, IN A SANDBOX (cutbox-rows.mjs): the forced cells as the released guide's own fill.sh prints them over the translation 41a965dc303de22b… (all of the seat's roots in one cut). By AI agents, Wed Nov 11 2026. No macro, syntax, notation, axiom, sorry.
-/
import Derived.Test.YtiboikbccmfedaaChecked
import GoSem.Claim
import GoSem.ClaimJoined
import GoSem.ClaimMapViews
import Derived.JoinedTies
import Derived.KernelRfl
namespace Go.Proofs.Ytiboikbccmfedaa
/- THE CELL 'sum', in the pinned program and in every row, IS THE sha256 OF THE DUMP (.gsa) THAT YtiboikbccmfedaaProg.lean LOADS. Nothing in Lean hashes anything: it is a label: what it is worth is what the hold of that sum in a sandbox is worth. -/
noncomputable def Try.pinned : Pinned := { name := "ytiboikbccmfedaa", sum := "41a965dc303de22bc3953f22647e80a0e2141e23b26325b7561bc8e24bd89b49", checked := Try.checked }
namespace Rows
def none {H : Type} : Left H := { results := [], args := [] }

/-- 'triglyphlaw12.AlexPlaces': WHATEVER THE INPUT: true; the input reads as it did. -/
def alexPlacesSpec : ChangeSpec := { name := "alexPlaces", fn := fun _ => fun
  | [d] => { results := [.lit (.bool true)], args := [d] }
  | _ => none }
def alexPlacesRow : OpenClaim := { program := "ytiboikbccmfedaa", sum := "41a965dc303de22bc3953f22647e80a0e2141e23b26325b7561bc8e24bd89b49", func := "triglyph/triglyphlaw12.AlexPlaces", spec := "alexPlaces", inPlace := ["internal/bytealg.IndexByteString", "internal/bytealg.IndexString"], recurses := true, named := ["internal/bytealg.MaxLen"], apart := false }
def AlexPlacesSaid : Prop := alexPlacesRow.holds Try.pinned (OpenSpec.ofChange alexPlacesSpec)

/-- ITS FALSE NEIGHBOUR: 'it returns false'. Refute it at one input. -/
def alexPlacesWrong : ChangeSpec := { name := "alexPlaces", fn := fun _ => fun
  | [d] => { results := [.lit (.bool false)], args := [d] }
  | _ => none }
def AlexPlacesWrongFalsely : Prop := alexPlacesRow.holds Try.pinned (OpenSpec.ofChange alexPlacesWrong)

/-- 'triglyphlaw12.AlexRemarks': WHATEVER THE INPUT: true; the input reads as it did. -/
def alexRemarksSpec : ChangeSpec := { name := "alexRemarks", fn := fun _ => fun
  | [d1, d2] => { results := [.lit (.bool true)], args := [d1, d2] }
  | _ => none }
def alexRemarksRow : OpenClaim := { program := "ytiboikbccmfedaa", sum := "41a965dc303de22bc3953f22647e80a0e2141e23b26325b7561bc8e24bd89b49", func := "triglyph/triglyphlaw12.AlexRemarks", spec := "alexRemarks", inPlace := ["internal/bytealg.IndexByteString", "internal/bytealg.IndexString"], recurses := true, named := ["internal/bytealg.MaxLen"], apart := false }
def AlexRemarksSaid : Prop := alexRemarksRow.holds Try.pinned (OpenSpec.ofChange alexRemarksSpec)

/-- ITS FALSE NEIGHBOUR: 'it returns false'. Refute it at one input. -/
def alexRemarksWrong : ChangeSpec := { name := "alexRemarks", fn := fun _ => fun
  | [d1, d2] => { results := [.lit (.bool false)], args := [d1, d2] }
  | _ => none }
def AlexRemarksWrongFalsely : Prop := alexRemarksRow.holds Try.pinned (OpenSpec.ofChange alexRemarksWrong)

/-- 'triglyphlaw12.AlexTexts': WHATEVER THE INPUT: true; the input reads as it did. -/
def alexTextsSpec : ChangeSpec := { name := "alexTexts", fn := fun _ => fun
  | [d] => { results := [.lit (.bool true)], args := [d] }
  | _ => none }
def alexTextsRow : OpenClaim := { program := "ytiboikbccmfedaa", sum := "41a965dc303de22bc3953f22647e80a0e2141e23b26325b7561bc8e24bd89b49", func := "triglyph/triglyphlaw12.AlexTexts", spec := "alexTexts", inPlace := ["internal/bytealg.IndexByteString", "internal/bytealg.IndexString"], recurses := true, named := ["internal/bytealg.MaxLen"], apart := false }
def AlexTextsSaid : Prop := alexTextsRow.holds Try.pinned (OpenSpec.ofChange alexTextsSpec)

/-- ITS FALSE NEIGHBOUR: 'it returns false'. Refute it at one input. -/
def alexTextsWrong : ChangeSpec := { name := "alexTexts", fn := fun _ => fun
  | [d] => { results := [.lit (.bool false)], args := [d] }
  | _ => none }
def AlexTextsWrongFalsely : Prop := alexTextsRow.holds Try.pinned (OpenSpec.ofChange alexTextsWrong)

/- THE SECOND FORM. 'bulk': how many values and letters a reading holds, each counted each time it is reached (what is shared counts as often as it is met; a slice's spare places count too). A statement '..UptoSaid' is the law's where the arguments, and the package variables that the reading takes, are together of bulk at most 1048576: NARROWER than '..Said'. Prove '..Said' where nothing that the law and all that it calls make is longer than what came in: it says more and counts as full. Else prove '..UptoSaid'. A law counts once. -/
mutual
def uptoBulk {H : Type} : DataW H → Nat
  | .lit (.string bytes) => bytes.length + 1
  | .lit _ => 1
  | .nil => 1
  | .ptr d => uptoBulk d + 1
  | .slice elems spare => uptoBulkAll elems + uptoBulkAll spare + 1
  | .agg parts => uptoBulkAll parts + 1
  | .iface _ d => uptoBulk d + 1
  | .map entries => uptoBulkEntries entries + 1
  | .held _ => 1
def uptoBulkAll {H : Type} : List (DataW H) → Nat
  | [] => 0
  | d :: r => uptoBulk d + uptoBulkAll r
def uptoBulkEntries {H : Type} : List (Lit × DataW H) → Nat
  | [] => 0
  | x :: r => uptoBulkEntry x + uptoBulkEntries r
def uptoBulkEntry {H : Type} : Lit × DataW H → Nat
  | (.string bytes, d) => bytes.length + uptoBulk d + 1
  | (_, d) => uptoBulk d + 1
 end
def uptoSmall : (H : Type) → List (DataW H) → Bool := fun _ ds => decide (uptoBulkAll ds ≤ 1048576)
def OpenSpec.upto (s : _root_.Go.ChangeSpec) : _root_.Go.OpenSpec := { _root_.Go.OpenSpec.ofChange s with cond := some uptoSmall }

/-- 'triglyphlaw12.AlexPlaces', WHERE WHAT IT READS IS OF BULK AT MOST 1048576: true; the input reads as it did. -/
def alexPlacesUptoRow : OpenClaim := { program := "ytiboikbccmfedaa", sum := "41a965dc303de22bc3953f22647e80a0e2141e23b26325b7561bc8e24bd89b49", func := "triglyph/triglyphlaw12.AlexPlaces", spec := "alexPlaces", inPlace := ["internal/bytealg.IndexByteString", "internal/bytealg.IndexString"], recurses := true, named := ["internal/bytealg.MaxLen"], apart := false, narrowed := true }
def AlexPlacesUptoSaid : Prop := alexPlacesUptoRow.holds Try.pinned (OpenSpec.upto alexPlacesSpec)

/-- 'triglyphlaw12.AlexRemarks', WHERE WHAT IT READS IS OF BULK AT MOST 1048576: true; the input reads as it did. -/
def alexRemarksUptoRow : OpenClaim := { program := "ytiboikbccmfedaa", sum := "41a965dc303de22bc3953f22647e80a0e2141e23b26325b7561bc8e24bd89b49", func := "triglyph/triglyphlaw12.AlexRemarks", spec := "alexRemarks", inPlace := ["internal/bytealg.IndexByteString", "internal/bytealg.IndexString"], recurses := true, named := ["internal/bytealg.MaxLen"], apart := false, narrowed := true }
def AlexRemarksUptoSaid : Prop := alexRemarksUptoRow.holds Try.pinned (OpenSpec.upto alexRemarksSpec)

/-- 'triglyphlaw12.AlexTexts', WHERE WHAT IT READS IS OF BULK AT MOST 1048576: true; the input reads as it did. -/
def alexTextsUptoRow : OpenClaim := { program := "ytiboikbccmfedaa", sum := "41a965dc303de22bc3953f22647e80a0e2141e23b26325b7561bc8e24bd89b49", func := "triglyph/triglyphlaw12.AlexTexts", spec := "alexTexts", inPlace := ["internal/bytealg.IndexByteString", "internal/bytealg.IndexString"], recurses := true, named := ["internal/bytealg.MaxLen"], apart := false, narrowed := true }
def AlexTextsUptoSaid : Prop := alexTextsUptoRow.holds Try.pinned (OpenSpec.upto alexTextsSpec)

end Rows
end Go.Proofs.Ytiboikbccmfedaa
