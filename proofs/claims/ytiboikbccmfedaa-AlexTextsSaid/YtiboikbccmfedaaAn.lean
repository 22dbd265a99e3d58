/- A step that neither writes nor asks the system keeps the tape: so the next entry of a map keeps it. Conditions: none beyond each theorem's own. -/
import Derived.Test.YtiboikbccmfedaaXLib
import Derived.Laws.IdiomRangeMap
namespace Go.Proofs.Ytiboikbccmfedaa
open Go.RowKit

/-- a step without a write to a cell and without a call of the system -/
def Tame {α : Type} : Sem α → Prop
  | .pure _ => True
  | .load _ _ k => ∀ v, Tame (k v)
  | .store .. => False
  | .new _ k => ∀ v, Tame (k v)
  | .shape _ k => ∀ v, Tame (k v)
  | .freeze .. => False
  | .frozen _ k => ∀ v, Tame (k v)
  | .getObj _ k => ∀ v, Tame (k v)
  | .setObj _ _ k => Tame k
  | .choose _ k => ∀ v, Tame (k v)
  | .sys .. => False
  | .program k => ∀ v, Tame (k v)
  | .mark _ k => Tame k
  | .halt _ => True

theorem tame_bind {α β : Type} (x : Sem α) (f : α → Sem β) : Tame x → (∀ a, Tame (f a)) → Tame (x >>= f) := by
  intro hx hf
  show Tame (Sem.bind x f)
  induction x with
  | pure a => exact hf a
  | load m a k ih => exact fun v => ih v (hx v)
  | store => exact absurd hx id
  | new o k ih => exact fun v => ih v (hx v)
  | shape o k ih => exact fun v => ih v (hx v)
  | freeze => exact absurd hx id
  | frozen o k ih => exact fun v => ih v (hx v)
  | getObj o k ih => exact fun v => ih v (hx v)
  | setObj o o' k ih => exact ih hx
  | choose o k ih => exact fun v => ih v (hx v)
  | sys => exact absurd hx id
  | program k ih => exact fun v => ih v (hx v)
  | mark m k ih => exact ih hx
  | halt h => trivial

theorem tame_tape {α : Type} (P : Program) (x : Sem α) : ∀ (w : World) (a : α) (w' : World), Tame x → x.run P w = .ok a w' → w'.tape = w.tape := by
  induction x with
  | pure a => intro w b w' _ h; simp only [Sem.run, Result.ok.injEq] at h; rw [h.2]
  | load m a k ih =>
    intro w b w' ht h
    simp only [Sem.run] at h
    split at h
    · exact ih _ w b w' (ht _) h
    · split at h
      · exact ih _ w b w' (ht _) h
      · cases h
  | store => exact fun _ _ _ h => absurd h id
  | new o k ih => intro w b w' ht h; simp only [Sem.run] at h; have e := ih _ _ b w' (ht _) h; exact e
  | shape o k ih => intro w b w' ht h; simp only [Sem.run] at h; exact ih _ _ b w' (ht _) h
  | freeze => exact fun _ _ _ h => absurd h id
  | frozen o k ih => intro w b w' ht h; simp only [Sem.run] at h; exact ih _ _ b w' (ht _) h
  | getObj o k ih =>
    intro w b w' ht h
    simp only [Sem.run] at h
    split at h
    · cases h
    · exact ih _ w b w' (ht _) h
    · cases h
  | setObj o o' k ih =>
    intro w b w' ht h
    simp only [Sem.run] at h
    split at h
    · cases h
    · have e := ih _ b w' ht h
      exact e
    · cases h
  | choose o k ih =>
    intro w b w' ht h
    simp only [Sem.run] at h
    split at h
    · exact ih _ w b w' (ht _) h
    · have e := ih _ _ b w' (ht _) h
      exact e
  | sys => exact fun _ _ _ h => absurd h id
  | program k ih => intro w b w' ht h; simp only [Sem.run] at h; exact ih _ w b w' (ht _) h
  | mark m k ih => intro w b w' ht h; simp only [Sem.run] at h; exact ih w b w' ht h
  | halt h => intro w b w' _ h; simp only [Sem.run] at h; cases h

theorem tame_next (v : Value) (t : TypeId) : Tame (Instr.next v false t) := by
  unfold Instr.next
  split
  · refine tame_bind _ _ (fun _ => trivial) fun o => ?_
    split
    · rename_i h; cases h
    · trivial
    · refine tame_bind _ _ (fun _ => trivial) fun o => ?_
      split
      · split
        · trivial
        · refine tame_bind _ _ (fun _ => trivial) fun j => ?_
          split
          · exact tame_bind _ _ trivial fun _ => trivial
          · trivial
          · trivial
      · trivial
    · trivial
  · trivial
theorem next_tape {P : Program} {v x : Value} {t : TypeId} {w w' : World} (h : (Instr.next v false t).run P w = .ok x w') : w'.tape = w.tape := tame_tape P _ w x w' (tame_next v t) h
end Go.Proofs.Ytiboikbccmfedaa
