/-
  No cell of these rows narrows 'for every input' (looked for: loops, veiled, ifaces, maps, wideKeys, modest, calm, conditions, laid).
  DERIVED. THE GIVEN ROWS OF THIS SEAT. 5 by the template 'for every input the law returns true; each argument reads behind the call as it read before'; 0 by the template 'total and deterministic' (their statements: YtpgfjgakhbnpkaaTotals.lean).
  GIVEN WITH THE SEED: the statements are not yours to turn. If you find one false, say at which input.
  Laid BY PROGRAM, IN A SANDBOX (cutbox-rows.mjs): the forced cells as the released guide's own fill.sh prints them over the translation 4989eeb5d55400a2… (all of the seat's roots in one cut). By AI agents, Wed Nov 11 2026. No macro, syntax, notation, axiom, sorry.
-/
import Derived.Test.YtpgfjgakhbnpkaaChecked
import GoSem.Claim
import GoSem.ClaimJoined
import GoSem.ClaimMapViews
import Derived.JoinedTies
import Derived.KernelRfl
namespace Go.Proofs.Ytpgfjgakhbnpkaa
/- THE CELL 'sum', in the pinned program and in every row, IS THE sha256 OF THE DUMP (.gsa) THAT YtpgfjgakhbnpkaaProg.lean LOADS. Nothing in Lean hashes anything: it is a label: what it is worth is what the hold of that sum in a sandbox is worth. -/
noncomputable def Try.pinned : Pinned := { name := "ytpgfjgakhbnpkaa", sum := "4989eeb5d55400a2fcddd75137267e4f3eb1d7a40399c843d628189e2d498952", checked := Try.checked }
namespace Rows
def none {H : Type} : Left H := { results := [], args := [] }

/-- 'triglyphlaw02.RunesWrites': WHATEVER THE INPUT: true; the input reads as it did. -/
def runesWritesSpec : ChangeSpec := { name := "runesWrites", fn := fun _ => fun
  | [d1, d2] => { results := [.lit (.bool true)], args := [d1, d2] }
  | _ => none }
def runesWritesRow : OpenClaim := { program := "ytpgfjgakhbnpkaa", sum := "4989eeb5d55400a2fcddd75137267e4f3eb1d7a40399c843d628189e2d498952", func := "triglyph/triglyphlaw02.RunesWrites", spec := "runesWrites", apart := false }
def RunesWritesSaid : Prop := runesWritesRow.holds Try.pinned (OpenSpec.ofChange runesWritesSpec)

/-- ITS FALSE NEIGHBOUR: 'it returns false'. Refute it at one input. -/
def runesWritesWrong : ChangeSpec := { name := "runesWrites", fn := fun _ => fun
  | [d1, d2] => { results := [.lit (.bool false)], args := [d1, d2] }
  | _ => none }
def RunesWritesWrongFalsely : Prop := runesWritesRow.holds Try.pinned (OpenSpec.ofChange runesWritesWrong)

/-- 'triglyphlaw02.RunesReads': WHATEVER THE INPUT: true; the input reads as it did. -/
def runesReadsSpec : ChangeSpec := { name := "runesReads", fn := fun _ => fun
  | [d] => { results := [.lit (.bool true)], args := [d] }
  | _ => none }
def runesReadsRow : OpenClaim := { program := "ytpgfjgakhbnpkaa", sum := "4989eeb5d55400a2fcddd75137267e4f3eb1d7a40399c843d628189e2d498952", func := "triglyph/triglyphlaw02.RunesReads", spec := "runesReads", apart := false }
def RunesReadsSaid : Prop := runesReadsRow.holds Try.pinned (OpenSpec.ofChange runesReadsSpec)

/-- ITS FALSE NEIGHBOUR: 'it returns false'. Refute it at one input. -/
def runesReadsWrong : ChangeSpec := { name := "runesReads", fn := fun _ => fun
  | [d] => { results := [.lit (.bool false)], args := [d] }
  | _ => none }
def RunesReadsWrongFalsely : Prop := runesReadsRow.holds Try.pinned (OpenSpec.ofChange runesReadsWrong)

/-- 'triglyphlaw02.RunesBack': WHATEVER THE INPUT: true; the input reads as it did. -/
def runesBackSpec : ChangeSpec := { name := "runesBack", fn := fun _ => fun
  | [d] => { results := [.lit (.bool true)], args := [d] }
  | _ => none }
def runesBackRow : OpenClaim := { program := "ytpgfjgakhbnpkaa", sum := "4989eeb5d55400a2fcddd75137267e4f3eb1d7a40399c843d628189e2d498952", func := "triglyph/triglyphlaw02.RunesBack", spec := "runesBack", apart := false }
def RunesBackSaid : Prop := runesBackRow.holds Try.pinned (OpenSpec.ofChange runesBackSpec)

/-- ITS FALSE NEIGHBOUR: 'it returns false'. Refute it at one input. -/
def runesBackWrong : ChangeSpec := { name := "runesBack", fn := fun _ => fun
  | [d] => { results := [.lit (.bool false)], args := [d] }
  | _ => none }
def RunesBackWrongFalsely : Prop := runesBackRow.holds Try.pinned (OpenSpec.ofChange runesBackWrong)

/-- 'triglyphlaw02.RunesOne': WHATEVER THE INPUT: true; the input reads as it did. -/
def runesOneSpec : ChangeSpec := { name := "runesOne", fn := fun _ => fun
  | [d] => { results := [.lit (.bool true)], args := [d] }
  | _ => none }
def runesOneRow : OpenClaim := { program := "ytpgfjgakhbnpkaa", sum := "4989eeb5d55400a2fcddd75137267e4f3eb1d7a40399c843d628189e2d498952", func := "triglyph/triglyphlaw02.RunesOne", spec := "runesOne", apart := false }
def RunesOneSaid : Prop := runesOneRow.holds Try.pinned (OpenSpec.ofChange runesOneSpec)

/-- ITS FALSE NEIGHBOUR: 'it returns false'. Refute it at one input. -/
def runesOneWrong : ChangeSpec := { name := "runesOne", fn := fun _ => fun
  | [d] => { results := [.lit (.bool false)], args := [d] }
  | _ => none }
def RunesOneWrongFalsely : Prop := runesOneRow.holds Try.pinned (OpenSpec.ofChange runesOneWrong)

/-- 'triglyphlaw02.RunesJoins': WHATEVER THE INPUT: true; the input reads as it did. -/
def runesJoinsSpec : ChangeSpec := { name := "runesJoins", fn := fun _ => fun
  | [d1, d2] => { results := [.lit (.bool true)], args := [d1, d2] }
  | _ => none }
def runesJoinsRow : OpenClaim := { program := "ytpgfjgakhbnpkaa", sum := "4989eeb5d55400a2fcddd75137267e4f3eb1d7a40399c843d628189e2d498952", func := "triglyph/triglyphlaw02.RunesJoins", spec := "runesJoins", apart := false }
def RunesJoinsSaid : Prop := runesJoinsRow.holds Try.pinned (OpenSpec.ofChange runesJoinsSpec)

/-- ITS FALSE NEIGHBOUR: 'it returns false'. Refute it at one input. -/
def runesJoinsWrong : ChangeSpec := { name := "runesJoins", fn := fun _ => fun
  | [d1, d2] => { results := [.lit (.bool false)], args := [d1, d2] }
  | _ => none }
def RunesJoinsWrongFalsely : Prop := runesJoinsRow.holds Try.pinned (OpenSpec.ofChange runesJoinsWrong)

/- THE SECOND FORM. 'bulk': how many values and letters a reading holds, each counted each time it is reached (what is shared counts as often as it is met; a slice's spare places count too). A statement '..UptoSaid' is the law's where the arguments, and the package variables that the reading takes, are together of bulk at most 1048576: NARROWER than '..Said'. Prove '..Said' where nothing that the law and all that it calls make is longer than what came in: it says more and counts as full. Else prove '..UptoSaid'. A law counts once. -/
mutual
def uptoBulk {H : Type} : DataW H → Nat
  | .lit (.string bytes) => bytes.length + 1
  | .lit _ => 1
  | .nil => 1
  | .ptr d => uptoBulk d + 1
  | .slice elems spare => uptoBulkAll elems + uptoBulkAll spare + 1
  | .agg parts => uptoBulkAll parts + 1
  | .iface _ d => uptoBulk d + 1
  | .map entries => uptoBulkEntries entries + 1
  | .held _ => 1
def uptoBulkAll {H : Type} : List (DataW H) → Nat
  | [] => 0
  | d :: r => uptoBulk d + uptoBulkAll r
def uptoBulkEntries {H : Type} : List (Lit × DataW H) → Nat
  | [] => 0
  | x :: r => uptoBulkEntry x + uptoBulkEntries r
def uptoBulkEntry {H : Type} : Lit × DataW H → Nat
  | (.string bytes, d) => bytes.length + uptoBulk d + 1
  | (_, d) => uptoBulk d + 1
 end
def uptoSmall : (H : Type) → List (DataW H) → Bool := fun _ ds => decide (uptoBulkAll ds ≤ 1048576)
def OpenSpec.upto (s : _root_.Go.ChangeSpec) : _root_.Go.OpenSpec := { _root_.Go.OpenSpec.ofChange s with cond := some uptoSmall }

/-- 'triglyphlaw02.RunesWrites', WHERE WHAT IT READS IS OF BULK AT MOST 1048576: true; the input reads as it did. -/
def runesWritesUptoRow : OpenClaim := { program := "ytpgfjgakhbnpkaa", sum := "4989eeb5d55400a2fcddd75137267e4f3eb1d7a40399c843d628189e2d498952", func := "triglyph/triglyphlaw02.RunesWrites", spec := "runesWrites", apart := false, narrowed := true }
def RunesWritesUptoSaid : Prop := runesWritesUptoRow.holds Try.pinned (OpenSpec.upto runesWritesSpec)

/-- 'triglyphlaw02.RunesReads', WHERE WHAT IT READS IS OF BULK AT MOST 1048576: true; the input reads as it did. -/
def runesReadsUptoRow : OpenClaim := { program := "ytpgfjgakhbnpkaa", sum := "4989eeb5d55400a2fcddd75137267e4f3eb1d7a40399c843d628189e2d498952", func := "triglyph/triglyphlaw02.RunesReads", spec := "runesReads", apart := false, narrowed := true }
def RunesReadsUptoSaid : Prop := runesReadsUptoRow.holds Try.pinned (OpenSpec.upto runesReadsSpec)

/-- 'triglyphlaw02.RunesBack', WHERE WHAT IT READS IS OF BULK AT MOST 1048576: true; the input reads as it did. -/
def runesBackUptoRow : OpenClaim := { program := "ytpgfjgakhbnpkaa", sum := "4989eeb5d55400a2fcddd75137267e4f3eb1d7a40399c843d628189e2d498952", func := "triglyph/triglyphlaw02.RunesBack", spec := "runesBack", apart := false, narrowed := true }
def RunesBackUptoSaid : Prop := runesBackUptoRow.holds Try.pinned (OpenSpec.upto runesBackSpec)

/-- 'triglyphlaw02.RunesOne', WHERE WHAT IT READS IS OF BULK AT MOST 1048576: true; the input reads as it did. -/
def runesOneUptoRow : OpenClaim := { program := "ytpgfjgakhbnpkaa", sum := "4989eeb5d55400a2fcddd75137267e4f3eb1d7a40399c843d628189e2d498952", func := "triglyph/triglyphlaw02.RunesOne", spec := "runesOne", apart := false, narrowed := true }
def RunesOneUptoSaid : Prop := runesOneUptoRow.holds Try.pinned (OpenSpec.upto runesOneSpec)

/-- 'triglyphlaw02.RunesJoins', WHERE WHAT IT READS IS OF BULK AT MOST 1048576: true; the input reads as it did. -/
def runesJoinsUptoRow : OpenClaim := { program := "ytpgfjgakhbnpkaa", sum := "4989eeb5d55400a2fcddd75137267e4f3eb1d7a40399c843d628189e2d498952", func := "triglyph/triglyphlaw02.RunesJoins", spec := "runesJoins", apart := false, narrowed := true }
def RunesJoinsUptoSaid : Prop := runesJoinsUptoRow.holds Try.pinned (OpenSpec.upto runesJoinsSpec)

end Rows
end Go.Proofs.Ytpgfjgakhbnpkaa
