/-
  No cell of these rows narrows 'for every input' (looked for: loops, veiled, ifaces, maps, wideKeys, modest, calm, conditions, laid).
  DERIVED. THE GIVEN ROWS OF THIS SEAT. 4 by the template 'for every input the law returns true; each argument reads behind the call as it read before'; 0 by the template 'total and deterministic' (their statements: YtkghglncmekdgaaTotals.lean).
  GIVEN WITH THE SEED: the statements are not yours to turn. If you find one false, say at which input.
  Laid BY PROGRAM, IN A SANDBOX (cutbox-rows.mjs): the forced cells as the released guide's own fill.sh prints them over the translation 588b9f56eb7ab457… (all of the seat's roots in one cut). By AI agents, Wed Nov 11 2026. No macro, syntax, notation, axiom, sorry.
-/
import Derived.Test.YtkghglncmekdgaaChecked
import GoSem.Claim
import GoSem.ClaimJoined
import GoSem.ClaimMapViews
import Derived.JoinedTies
import Derived.KernelRfl
namespace Go.Proofs.Ytkghglncmekdgaa
/- THE CELL 'sum', in the pinned program and in every row, IS THE sha256 OF THE DUMP (.gsa) THAT YtkghglncmekdgaaProg.lean LOADS. Nothing in Lean hashes anything: it is a label: what it is worth is what the hold of that sum in a sandbox is worth. -/
noncomputable def Try.pinned : Pinned := { name := "ytkghglncmekdgaa", sum := "588b9f56eb7ab4579e1f8cc95584202a8a5d49e2a01bc904e50f776bc531db5f", checked := Try.checked }
namespace Rows
def none {H : Type} : Left H := { results := [], args := [] }

/-- 'triglyphlaw14.KlexBlanks': WHATEVER THE INPUT: true; the input reads as it did. -/
def klexBlanksSpec : ChangeSpec := { name := "klexBlanks", fn := fun _ => fun
  | [d1, d2] => { results := [.lit (.bool true)], args := [d1, d2] }
  | _ => none }
def klexBlanksRow : OpenClaim := { program := "ytkghglncmekdgaa", sum := "588b9f56eb7ab4579e1f8cc95584202a8a5d49e2a01bc904e50f776bc531db5f", func := "triglyph/triglyphlaw14.KlexBlanks", spec := "klexBlanks", inPlace := ["internal/bytealg.IndexByteString", "internal/bytealg.IndexString"], unfollowed := true, recurses := true, named := ["internal/bytealg.MaxLen"], apart := false }
def KlexBlanksSaid : Prop := klexBlanksRow.holds Try.pinned (OpenSpec.ofChange klexBlanksSpec)

/-- ITS FALSE NEIGHBOUR: 'it returns false'. Refute it at one input. -/
def klexBlanksWrong : ChangeSpec := { name := "klexBlanks", fn := fun _ => fun
  | [d1, d2] => { results := [.lit (.bool false)], args := [d1, d2] }
  | _ => none }
def KlexBlanksWrongFalsely : Prop := klexBlanksRow.holds Try.pinned (OpenSpec.ofChange klexBlanksWrong)

/-- 'triglyphlaw14.KlexPlaces': WHATEVER THE INPUT: true; the input reads as it did. -/
def klexPlacesSpec : ChangeSpec := { name := "klexPlaces", fn := fun _ => fun
  | [d] => { results := [.lit (.bool true)], args := [d] }
  | _ => none }
def klexPlacesRow : OpenClaim := { program := "ytkghglncmekdgaa", sum := "588b9f56eb7ab4579e1f8cc95584202a8a5d49e2a01bc904e50f776bc531db5f", func := "triglyph/triglyphlaw14.KlexPlaces", spec := "klexPlaces", inPlace := ["internal/bytealg.IndexByteString", "internal/bytealg.IndexString"], unfollowed := true, recurses := true, named := ["internal/bytealg.MaxLen"], apart := false }
def KlexPlacesSaid : Prop := klexPlacesRow.holds Try.pinned (OpenSpec.ofChange klexPlacesSpec)

/-- ITS FALSE NEIGHBOUR: 'it returns false'. Refute it at one input. -/
def klexPlacesWrong : ChangeSpec := { name := "klexPlaces", fn := fun _ => fun
  | [d] => { results := [.lit (.bool false)], args := [d] }
  | _ => none }
def KlexPlacesWrongFalsely : Prop := klexPlacesRow.holds Try.pinned (OpenSpec.ofChange klexPlacesWrong)

/-- 'triglyphlaw14.KlexMinus': WHATEVER THE INPUT: true; the input reads as it did. -/
def klexMinusSpec : ChangeSpec := { name := "klexMinus", fn := fun _ => fun
  | [d1, d2] => { results := [.lit (.bool true)], args := [d1, d2] }
  | _ => none }
def klexMinusRow : OpenClaim := { program := "ytkghglncmekdgaa", sum := "588b9f56eb7ab4579e1f8cc95584202a8a5d49e2a01bc904e50f776bc531db5f", func := "triglyph/triglyphlaw14.KlexMinus", spec := "klexMinus", inPlace := ["internal/bytealg.IndexByteString", "internal/bytealg.IndexString"], unfollowed := true, recurses := true, named := ["internal/bytealg.MaxLen"], apart := false }
def KlexMinusSaid : Prop := klexMinusRow.holds Try.pinned (OpenSpec.ofChange klexMinusSpec)

/-- ITS FALSE NEIGHBOUR: 'it returns false'. Refute it at one input. -/
def klexMinusWrong : ChangeSpec := { name := "klexMinus", fn := fun _ => fun
  | [d1, d2] => { results := [.lit (.bool false)], args := [d1, d2] }
  | _ => none }
def KlexMinusWrongFalsely : Prop := klexMinusRow.holds Try.pinned (OpenSpec.ofChange klexMinusWrong)

/-- 'triglyphlaw14.KlexTexts': WHATEVER THE INPUT: true; the input reads as it did. -/
def klexTextsSpec : ChangeSpec := { name := "klexTexts", fn := fun _ => fun
  | [d] => { results := [.lit (.bool true)], args := [d] }
  | _ => none }
def klexTextsRow : OpenClaim := { program := "ytkghglncmekdgaa", sum := "588b9f56eb7ab4579e1f8cc95584202a8a5d49e2a01bc904e50f776bc531db5f", func := "triglyph/triglyphlaw14.KlexTexts", spec := "klexTexts", inPlace := ["internal/bytealg.IndexByteString", "internal/bytealg.IndexString"], unfollowed := true, recurses := true, named := ["internal/bytealg.MaxLen"], apart := false }
def KlexTextsSaid : Prop := klexTextsRow.holds Try.pinned (OpenSpec.ofChange klexTextsSpec)

/-- ITS FALSE NEIGHBOUR: 'it returns false'. Refute it at one input. -/
def klexTextsWrong : ChangeSpec := { name := "klexTexts", fn := fun _ => fun
  | [d] => { results := [.lit (.bool false)], args := [d] }
  | _ => none }
def KlexTextsWrongFalsely : Prop := klexTextsRow.holds Try.pinned (OpenSpec.ofChange klexTextsWrong)

/- THE SECOND FORM. 'bulk': how many values and letters a reading holds, each counted each time it is reached (what is shared counts as often as it is met; a slice's spare places count too). A statement '..UptoSaid' is the law's where the arguments, and the package variables that the reading takes, are together of bulk at most 1048576: NARROWER than '..Said'. Prove '..Said' where nothing that the law and all that it calls make is longer than what came in: it says more and counts as full. Else prove '..UptoSaid'. A law counts once. -/
mutual
def uptoBulk {H : Type} : DataW H → Nat
  | .lit (.string bytes) => bytes.length + 1
  | .lit _ => 1
  | .nil => 1
  | .ptr d => uptoBulk d + 1
  | .slice elems spare => uptoBulkAll elems + uptoBulkAll spare + 1
  | .agg parts => uptoBulkAll parts + 1
  | .iface _ d => uptoBulk d + 1
  | .map entries => uptoBulkEntries entries + 1
  | .held _ => 1
def uptoBulkAll {H : Type} : List (DataW H) → Nat
  | [] => 0
  | d :: r => uptoBulk d + uptoBulkAll r
def uptoBulkEntries {H : Type} : List (Lit × DataW H) → Nat
  | [] => 0
  | x :: r => uptoBulkEntry x + uptoBulkEntries r
def uptoBulkEntry {H : Type} : Lit × DataW H → Nat
  | (.string bytes, d) => bytes.length + uptoBulk d + 1
  | (_, d) => uptoBulk d + 1
 end
def uptoSmall : (H : Type) → List (DataW H) → Bool := fun _ ds => decide (uptoBulkAll ds ≤ 1048576)
def OpenSpec.upto (s : _root_.Go.ChangeSpec) : _root_.Go.OpenSpec := { _root_.Go.OpenSpec.ofChange s with cond := some uptoSmall }

/-- 'triglyphlaw14.KlexBlanks', WHERE WHAT IT READS IS OF BULK AT MOST 1048576: true; the input reads as it did. -/
def klexBlanksUptoRow : OpenClaim := { program := "ytkghglncmekdgaa", sum := "588b9f56eb7ab4579e1f8cc95584202a8a5d49e2a01bc904e50f776bc531db5f", func := "triglyph/triglyphlaw14.KlexBlanks", spec := "klexBlanks", inPlace := ["internal/bytealg.IndexByteString", "internal/bytealg.IndexString"], unfollowed := true, recurses := true, named := ["internal/bytealg.MaxLen"], apart := false, narrowed := true }
def KlexBlanksUptoSaid : Prop := klexBlanksUptoRow.holds Try.pinned (OpenSpec.upto klexBlanksSpec)

/-- 'triglyphlaw14.KlexPlaces', WHERE WHAT IT READS IS OF BULK AT MOST 1048576: true; the input reads as it did. -/
def klexPlacesUptoRow : OpenClaim := { program := "ytkghglncmekdgaa", sum := "588b9f56eb7ab4579e1f8cc95584202a8a5d49e2a01bc904e50f776bc531db5f", func := "triglyph/triglyphlaw14.KlexPlaces", spec := "klexPlaces", inPlace := ["internal/bytealg.IndexByteString", "internal/bytealg.IndexString"], unfollowed := true, recurses := true, named := ["internal/bytealg.MaxLen"], apart := false, narrowed := true }
def KlexPlacesUptoSaid : Prop := klexPlacesUptoRow.holds Try.pinned (OpenSpec.upto klexPlacesSpec)

/-- 'triglyphlaw14.KlexMinus', WHERE WHAT IT READS IS OF BULK AT MOST 1048576: true; the input reads as it did. -/
def klexMinusUptoRow : OpenClaim := { program := "ytkghglncmekdgaa", sum := "588b9f56eb7ab4579e1f8cc95584202a8a5d49e2a01bc904e50f776bc531db5f", func := "triglyph/triglyphlaw14.KlexMinus", spec := "klexMinus", inPlace := ["internal/bytealg.IndexByteString", "internal/bytealg.IndexString"], unfollowed := true, recurses := true, named := ["internal/bytealg.MaxLen"], apart := false, narrowed := true }
def KlexMinusUptoSaid : Prop := klexMinusUptoRow.holds Try.pinned (OpenSpec.upto klexMinusSpec)

/-- 'triglyphlaw14.KlexTexts', WHERE WHAT IT READS IS OF BULK AT MOST 1048576: true; the input reads as it did. -/
def klexTextsUptoRow : OpenClaim := { program := "ytkghglncmekdgaa", sum := "588b9f56eb7ab4579e1f8cc95584202a8a5d49e2a01bc904e50f776bc531db5f", func := "triglyph/triglyphlaw14.KlexTexts", spec := "klexTexts", inPlace := ["internal/bytealg.IndexByteString", "internal/bytealg.IndexString"], unfollowed := true, recurses := true, named := ["internal/bytealg.MaxLen"], apart := false, narrowed := true }
def KlexTextsUptoSaid : Prop := klexTextsUptoRow.holds Try.pinned (OpenSpec.upto klexTextsSpec)

end Rows
end Go.Proofs.Ytkghglncmekdgaa
