/-
  NARROWER THAN 'FOR EVERY INPUT', by the rows' own cells (each row's printed sentence says how): MeterMore: loops.
  DERIVED. THE GIVEN ROWS OF THIS SEAT. 3 by the template 'for every input the law returns true; each argument reads behind the call as it read before'; 0 by the template 'total and deterministic' (their statements: YtmalhpadnnlfjaaTotals.lean).
  GIVEN WITH THE SEED: the statements are not yours to turn. If you find one false, say at which input.
  Laid BY PROGRAM, IN A SANDBOX (cutbox-rows.mjs): the forced cells as the released guide's own fill.sh prints them over the translation 98a5731731dfa487… (all of the seat's roots in one cut). By AI agents, Wed Nov 11 2026. No macro, syntax, notation, axiom, sorry.
-/
import Derived.Test.YtmalhpadnnlfjaaChecked
import GoSem.Claim
import GoSem.ClaimJoined
import GoSem.ClaimMapViews
import Derived.JoinedTies
import Derived.KernelRfl
namespace Go.Proofs.Ytmalhpadnnlfjaa
/- THE CELL 'sum', in the pinned program and in every row, IS THE sha256 OF THE DUMP (.gsa) THAT YtmalhpadnnlfjaaProg.lean LOADS. Nothing in Lean hashes anything: it is a label: what it is worth is what the hold of that sum in a sandbox is worth. -/
noncomputable def Try.pinned : Pinned := { name := "ytmalhpadnnlfjaa", sum := "98a5731731dfa487aced5be28ad4068c9d079e440c79ce4d6b99fb8315465b09", checked := Try.checked }
namespace Rows
def none {H : Type} : Left H := { results := [], args := [] }

/-- 'triglyphlaw09.MeterSteps': WHATEVER THE INPUT: true; the input reads as it did. -/
def meterStepsSpec : ChangeSpec := { name := "meterSteps", fn := fun _ => fun
  | [d1, d2, d3] => { results := [.lit (.bool true)], args := [d1, d2, d3] }
  | _ => none }
def meterStepsRow : OpenClaim := { program := "ytmalhpadnnlfjaa", sum := "98a5731731dfa487aced5be28ad4068c9d079e440c79ce4d6b99fb8315465b09", func := "triglyph/triglyphlaw09.MeterSteps", spec := "meterSteps", recurses := true, apart := false }
def MeterStepsSaid : Prop := meterStepsRow.holds Try.pinned (OpenSpec.ofChange meterStepsSpec)

/-- ITS FALSE NEIGHBOUR: 'it returns false'. Refute it at one input. -/
def meterStepsWrong : ChangeSpec := { name := "meterSteps", fn := fun _ => fun
  | [d1, d2, d3] => { results := [.lit (.bool false)], args := [d1, d2, d3] }
  | _ => none }
def MeterStepsWrongFalsely : Prop := meterStepsRow.holds Try.pinned (OpenSpec.ofChange meterStepsWrong)

/-- 'triglyphlaw09.MeterMore': WHATEVER THE INPUT: true; the input reads as it did. -/
def meterMoreSpec : ChangeSpec := { name := "meterMore", fn := fun _ => fun
  | [d1, d2, d3, d4, d5] => { results := [.lit (.bool true)], args := [d1, d2, d3, d4, d5] }
  | _ => none }
def meterMoreRow : OpenClaim := { program := "ytmalhpadnnlfjaa", sum := "98a5731731dfa487aced5be28ad4068c9d079e440c79ce4d6b99fb8315465b09", func := "triglyph/triglyphlaw09.MeterMore", spec := "meterMore", recurses := true, loops := true, apart := false }
def MeterMoreSaid : Prop := meterMoreRow.holds Try.pinned (OpenSpec.ofChange meterMoreSpec)

/-- ITS FALSE NEIGHBOUR: 'it returns false'. Refute it at one input. -/
def meterMoreWrong : ChangeSpec := { name := "meterMore", fn := fun _ => fun
  | [d1, d2, d3, d4, d5] => { results := [.lit (.bool false)], args := [d1, d2, d3, d4, d5] }
  | _ => none }
def MeterMoreWrongFalsely : Prop := meterMoreRow.holds Try.pinned (OpenSpec.ofChange meterMoreWrong)

/-- 'triglyphlaw09.MeterBound': WHATEVER THE INPUT: true; the input reads as it did. -/
def meterBoundSpec : ChangeSpec := { name := "meterBound", fn := fun _ => fun
  | [d1, d2] => { results := [.lit (.bool true)], args := [d1, d2] }
  | _ => none }
def meterBoundRow : OpenClaim := { program := "ytmalhpadnnlfjaa", sum := "98a5731731dfa487aced5be28ad4068c9d079e440c79ce4d6b99fb8315465b09", func := "triglyph/triglyphlaw09.MeterBound", spec := "meterBound", recurses := true, apart := false }
def MeterBoundSaid : Prop := meterBoundRow.holds Try.pinned (OpenSpec.ofChange meterBoundSpec)

/-- ITS FALSE NEIGHBOUR: 'it returns false'. Refute it at one input. -/
def meterBoundWrong : ChangeSpec := { name := "meterBound", fn := fun _ => fun
  | [d1, d2] => { results := [.lit (.bool false)], args := [d1, d2] }
  | _ => none }
def MeterBoundWrongFalsely : Prop := meterBoundRow.holds Try.pinned (OpenSpec.ofChange meterBoundWrong)

/- THE SECOND FORM. 'bulk': how many values and letters a reading holds, each counted each time it is reached (what is shared counts as often as it is met; a slice's spare places count too). A statement '..UptoSaid' is the law's where the arguments, and the package variables that the reading takes, are together of bulk at most 1048576: NARROWER than '..Said'. Prove '..Said' where nothing that the law and all that it calls make is longer than what came in: it says more and counts as full. Else prove '..UptoSaid'. A law counts once. -/
mutual
def uptoBulk {H : Type} : DataW H → Nat
  | .lit (.string bytes) => bytes.length + 1
  | .lit _ => 1
  | .nil => 1
  | .ptr d => uptoBulk d + 1
  | .slice elems spare => uptoBulkAll elems + uptoBulkAll spare + 1
  | .agg parts => uptoBulkAll parts + 1
  | .iface _ d => uptoBulk d + 1
  | .map entries => uptoBulkEntries entries + 1
  | .held _ => 1
def uptoBulkAll {H : Type} : List (DataW H) → Nat
  | [] => 0
  | d :: r => uptoBulk d + uptoBulkAll r
def uptoBulkEntries {H : Type} : List (Lit × DataW H) → Nat
  | [] => 0
  | x :: r => uptoBulkEntry x + uptoBulkEntries r
def uptoBulkEntry {H : Type} : Lit × DataW H → Nat
  | (.string bytes, d) => bytes.length + uptoBulk d + 1
  | (_, d) => uptoBulk d + 1
 end
def uptoSmall : (H : Type) → List (DataW H) → Bool := fun _ ds => decide (uptoBulkAll ds ≤ 1048576)
def OpenSpec.upto (s : _root_.Go.ChangeSpec) : _root_.Go.OpenSpec := { _root_.Go.OpenSpec.ofChange s with cond := some uptoSmall }

/-- 'triglyphlaw09.MeterSteps', WHERE WHAT IT READS IS OF BULK AT MOST 1048576: true; the input reads as it did. -/
def meterStepsUptoRow : OpenClaim := { program := "ytmalhpadnnlfjaa", sum := "98a5731731dfa487aced5be28ad4068c9d079e440c79ce4d6b99fb8315465b09", func := "triglyph/triglyphlaw09.MeterSteps", spec := "meterSteps", recurses := true, apart := false, narrowed := true }
def MeterStepsUptoSaid : Prop := meterStepsUptoRow.holds Try.pinned (OpenSpec.upto meterStepsSpec)

/-- 'triglyphlaw09.MeterMore', WHERE WHAT IT READS IS OF BULK AT MOST 1048576: true; the input reads as it did. -/
def meterMoreUptoRow : OpenClaim := { program := "ytmalhpadnnlfjaa", sum := "98a5731731dfa487aced5be28ad4068c9d079e440c79ce4d6b99fb8315465b09", func := "triglyph/triglyphlaw09.MeterMore", spec := "meterMore", recurses := true, loops := true, apart := false, narrowed := true }
def MeterMoreUptoSaid : Prop := meterMoreUptoRow.holds Try.pinned (OpenSpec.upto meterMoreSpec)

/-- 'triglyphlaw09.MeterBound', WHERE WHAT IT READS IS OF BULK AT MOST 1048576: true; the input reads as it did. -/
def meterBoundUptoRow : OpenClaim := { program := "ytmalhpadnnlfjaa", sum := "98a5731731dfa487aced5be28ad4068c9d079e440c79ce4d6b99fb8315465b09", func := "triglyph/triglyphlaw09.MeterBound", spec := "meterBound", recurses := true, apart := false, narrowed := true }
def MeterBoundUptoSaid : Prop := meterBoundUptoRow.holds Try.pinned (OpenSpec.upto meterBoundSpec)

end Rows
end Go.Proofs.Ytmalhpadnnlfjaa
