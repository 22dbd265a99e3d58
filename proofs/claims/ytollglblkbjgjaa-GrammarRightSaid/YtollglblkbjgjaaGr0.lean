/- A drawn region in a function that defers, whose call may panic. Conditions: what a panic leaves is known. -/
import Derived.Test.YtollglblkbjgjaaGo1
import Derived.Deep.RegionHeld3
namespace Go.Proofs.Ytollglblkbjgjaa
open Go.RowKit

/-- a post that says of a panic what the doors are and what the world is -/
def PanicThen (D : List Deferred) (T : List PanicEntry → World → Prop) (Q : Exit → Act → World → Prop) : Exit → Act → World → Prop
 | .panic c, a, w => a.defers = D ∧ T c w
 | e, a, w => Q e a w
theorem PanicThen.normal {D : List Deferred} {T : List PanicEntry → World → Prop} {Q : Exit → Act → World → Prop} {a : Act} {w : World} (h : Q .normal a w) : PanicThen D T Q .normal a w := h
theorem wp_region_panicThen {P : Program} {id : Nat} {ops : Array Oper} {b : Bool} {Q : Exit → Act → World → Prop} {a : Act} {w : World} (D : List Deferred) (T : List PanicEntry → World → Prop) (hT : ∀ c a w, a.defers = D → T c w → Q (.panic c) a w) (h : (Code.region id ops b).wp P (PanicThen D T Q) a w) : (Code.region id ops b).wp P Q a w :=
 Code.wp_mono (fun e a w q => by cases e <;> first | exact q | exact hT _ _ _ q.1 q.2) h
theorem PanicThen.panic {D : List Deferred} {T : List PanicEntry → World → Prop} {Q : Exit → Act → World → Prop} {c : List PanicEntry} {a : Act} {w : World} (h : a.defers = D) (k : T c w) : PanicThen D T Q (.panic c) a w := ⟨h, k⟩
/-- what a fault leaves -/
def ThrewC (E : Env) (bp : Nat) (R : Res Nd) (w : World) (c : List PanicEntry) (w' : World) : Prop := ∃ (er : Int) (ix p : Nat) (d n : Int), R = .bad er ix ∧ c = faultChain er (E.here ix) ∧ PM E bp p d n w w'
end Go.Proofs.Ytollglblkbjgjaa
