/-
  NARROWER THAN 'FOR EVERY INPUT', by the rows' own cells (each row's printed sentence says how): GrammarBound: loops.
  DERIVED. THE GIVEN ROWS OF THIS SEAT. 3 by the template 'for every input the law returns true; each argument reads behind the call as it read before'; 0 by the template 'total and deterministic' (their statements: YtollglblkbjgjaaTotals.lean).
  GIVEN WITH THE SEED: the statements are not yours to turn. If you find one false, say at which input.
  Laid BY PROGRAM, IN A SANDBOX (cutbox-rows.mjs): the forced cells as the released guide's own fill.sh prints them over the translation 4894bb8965de3c71… (all of the seat's roots in one cut). By AI agents, Wed Nov 11 2026. No macro, syntax, notation, axiom, sorry.
-/
import Derived.Test.YtollglblkbjgjaaChecked
import GoSem.Claim
import GoSem.ClaimJoined
import GoSem.ClaimMapViews
import Derived.JoinedTies
import Derived.KernelRfl
namespace Go.Proofs.Ytollglblkbjgjaa
/- THE CELL 'sum', in the pinned program and in every row, IS THE sha256 OF THE DUMP (.gsa) THAT YtollglblkbjgjaaProg.lean LOADS. Nothing in Lean hashes anything: it is a label: what it is worth is what the hold of that sum in a sandbox is worth. -/
noncomputable def Try.pinned : Pinned := { name := "ytollglblkbjgjaa", sum := "4894bb8965de3c71a23ab319720ad387da623fcf6477e31e56656a7eee313ead", checked := Try.checked }
namespace Rows
def none {H : Type} : Left H := { results := [], args := [] }

/-- 'triglyphlaw15.GrammarBrackets': WHATEVER THE INPUT: true; the input reads as it did. -/
def grammarBracketsSpec : ChangeSpec := { name := "grammarBrackets", fn := fun _ => fun
  | [d1, d2] => { results := [.lit (.bool true)], args := [d1, d2] }
  | _ => none }
def grammarBracketsRow : OpenClaim := { program := "ytollglblkbjgjaa", sum := "4894bb8965de3c71a23ab319720ad387da623fcf6477e31e56656a7eee313ead", func := "triglyph/triglyphlaw15.GrammarBrackets", spec := "grammarBrackets", unfollowed := true, recurses := true, apart := false }
def GrammarBracketsSaid : Prop := grammarBracketsRow.holds Try.pinned (OpenSpec.ofChange grammarBracketsSpec)

/-- ITS FALSE NEIGHBOUR: 'it returns false'. Refute it at one input. -/
def grammarBracketsWrong : ChangeSpec := { name := "grammarBrackets", fn := fun _ => fun
  | [d1, d2] => { results := [.lit (.bool false)], args := [d1, d2] }
  | _ => none }
def GrammarBracketsWrongFalsely : Prop := grammarBracketsRow.holds Try.pinned (OpenSpec.ofChange grammarBracketsWrong)

/-- 'triglyphlaw15.GrammarRight': WHATEVER THE INPUT: true; the input reads as it did. -/
def grammarRightSpec : ChangeSpec := { name := "grammarRight", fn := fun _ => fun
  | [d1, d2, d3] => { results := [.lit (.bool true)], args := [d1, d2, d3] }
  | _ => none }
def grammarRightRow : OpenClaim := { program := "ytollglblkbjgjaa", sum := "4894bb8965de3c71a23ab319720ad387da623fcf6477e31e56656a7eee313ead", func := "triglyph/triglyphlaw15.GrammarRight", spec := "grammarRight", unfollowed := true, recurses := true, apart := false }
def GrammarRightSaid : Prop := grammarRightRow.holds Try.pinned (OpenSpec.ofChange grammarRightSpec)

/-- ITS FALSE NEIGHBOUR: 'it returns false'. Refute it at one input. -/
def grammarRightWrong : ChangeSpec := { name := "grammarRight", fn := fun _ => fun
  | [d1, d2, d3] => { results := [.lit (.bool false)], args := [d1, d2, d3] }
  | _ => none }
def GrammarRightWrongFalsely : Prop := grammarRightRow.holds Try.pinned (OpenSpec.ofChange grammarRightWrong)

/-- 'triglyphlaw15.GrammarBound': WHATEVER THE INPUT: true; the input reads as it did. -/
def grammarBoundSpec : ChangeSpec := { name := "grammarBound", fn := fun _ => fun
  | [d1, d2, d3] => { results := [.lit (.bool true)], args := [d1, d2, d3] }
  | _ => none }
def grammarBoundRow : OpenClaim := { program := "ytollglblkbjgjaa", sum := "4894bb8965de3c71a23ab319720ad387da623fcf6477e31e56656a7eee313ead", func := "triglyph/triglyphlaw15.GrammarBound", spec := "grammarBound", unfollowed := true, recurses := true, loops := true, apart := false }
def GrammarBoundSaid : Prop := grammarBoundRow.holds Try.pinned (OpenSpec.ofChange grammarBoundSpec)

/-- ITS FALSE NEIGHBOUR: 'it returns false'. Refute it at one input. -/
def grammarBoundWrong : ChangeSpec := { name := "grammarBound", fn := fun _ => fun
  | [d1, d2, d3] => { results := [.lit (.bool false)], args := [d1, d2, d3] }
  | _ => none }
def GrammarBoundWrongFalsely : Prop := grammarBoundRow.holds Try.pinned (OpenSpec.ofChange grammarBoundWrong)

/- THE SECOND FORM. 'bulk': how many values and letters a reading holds, each counted each time it is reached (what is shared counts as often as it is met; a slice's spare places count too). A statement '..UptoSaid' is the law's where the arguments, and the package variables that the reading takes, are together of bulk at most 1048576: NARROWER than '..Said'. Prove '..Said' where nothing that the law and all that it calls make is longer than what came in: it says more and counts as full. Else prove '..UptoSaid'. A law counts once. -/
mutual
def uptoBulk {H : Type} : DataW H → Nat
  | .lit (.string bytes) => bytes.length + 1
  | .lit _ => 1
  | .nil => 1
  | .ptr d => uptoBulk d + 1
  | .slice elems spare => uptoBulkAll elems + uptoBulkAll spare + 1
  | .agg parts => uptoBulkAll parts + 1
  | .iface _ d => uptoBulk d + 1
  | .map entries => uptoBulkEntries entries + 1
  | .held _ => 1
def uptoBulkAll {H : Type} : List (DataW H) → Nat
  | [] => 0
  | d :: r => uptoBulk d + uptoBulkAll r
def uptoBulkEntries {H : Type} : List (Lit × DataW H) → Nat
  | [] => 0
  | x :: r => uptoBulkEntry x + uptoBulkEntries r
def uptoBulkEntry {H : Type} : Lit × DataW H → Nat
  | (.string bytes, d) => bytes.length + uptoBulk d + 1
  | (_, d) => uptoBulk d + 1
 end
def uptoSmall : (H : Type) → List (DataW H) → Bool := fun _ ds => decide (uptoBulkAll ds ≤ 1048576)
def OpenSpec.upto (s : _root_.Go.ChangeSpec) : _root_.Go.OpenSpec := { _root_.Go.OpenSpec.ofChange s with cond := some uptoSmall }

/-- 'triglyphlaw15.GrammarBrackets', WHERE WHAT IT READS IS OF BULK AT MOST 1048576: true; the input reads as it did. -/
def grammarBracketsUptoRow : OpenClaim := { program := "ytollglblkbjgjaa", sum := "4894bb8965de3c71a23ab319720ad387da623fcf6477e31e56656a7eee313ead", func := "triglyph/triglyphlaw15.GrammarBrackets", spec := "grammarBrackets", unfollowed := true, recurses := true, apart := false, narrowed := true }
def GrammarBracketsUptoSaid : Prop := grammarBracketsUptoRow.holds Try.pinned (OpenSpec.upto grammarBracketsSpec)

/-- 'triglyphlaw15.GrammarRight', WHERE WHAT IT READS IS OF BULK AT MOST 1048576: true; the input reads as it did. -/
def grammarRightUptoRow : OpenClaim := { program := "ytollglblkbjgjaa", sum := "4894bb8965de3c71a23ab319720ad387da623fcf6477e31e56656a7eee313ead", func := "triglyph/triglyphlaw15.GrammarRight", spec := "grammarRight", unfollowed := true, recurses := true, apart := false, narrowed := true }
def GrammarRightUptoSaid : Prop := grammarRightUptoRow.holds Try.pinned (OpenSpec.upto grammarRightSpec)

/-- 'triglyphlaw15.GrammarBound', WHERE WHAT IT READS IS OF BULK AT MOST 1048576: true; the input reads as it did. -/
def grammarBoundUptoRow : OpenClaim := { program := "ytollglblkbjgjaa", sum := "4894bb8965de3c71a23ab319720ad387da623fcf6477e31e56656a7eee313ead", func := "triglyph/triglyphlaw15.GrammarBound", spec := "grammarBound", unfollowed := true, recurses := true, loops := true, apart := false, narrowed := true }
def GrammarBoundUptoSaid : Prop := grammarBoundUptoRow.holds Try.pinned (OpenSpec.upto grammarBoundSpec)

end Rows
end Go.Proofs.Ytollglblkbjgjaa
