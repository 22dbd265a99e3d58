/- Contracts of the meter's New, take, Step and Used: what each call returns and leaves in memory. Conditions: the meter's block lies in memory as its three numbers. -/
import Derived.Test.YtmalhpadnnlfjaaProg
import Derived.WalkKit
import Derived.ProofKit
import Derived.OpenShut
import Derived.BigRegion
import Derived.BigQuiet
import Derived.Deep.QuietTactic
import Derived.Outline
import Derived.OwnWalk
import Derived.Below
import Derived.Lib.Hide
import Derived.Laws.AppendOwn
namespace Go.Proofs.Ytmalhpadnnlfjaa
open Go.RowKit

/-- the meter's block -/
def mcell (l u c : Int) : Obj := .cells #[.int .i64 l, .int .i64 u, .int .i64 c] 46 (0, 0)

theorem new_any (a b : Int) (w : World) (ha : a ≤ 9223372036854775807) (hb : b ≤ 9223372036854775807) :
    Calls Try.prog 6 #[.int .i64 a, .int .i64 b] w fun e w' => e = .returned (.pointer (some ⟨w.heap.size, 0, none⟩)) ∧ w' = w.alloc (mcell (max a 0) 0 (max b 0)) := by
  by_cases h1 : a < 0 <;> by_cases h2 : b < 0
  all_goals
    go_enter Try.func6, Try.ntmps6
    go_wp2
    go_ret
    refine ⟨rfl, ?_⟩
    unfold mcell
    congr <;> omega

theorem take_no (g : Nat) (l u c : Int) (w : World) (hg : w.heap[g]? = some (mcell l u c)) (hl : l ≤ 0) :
    Calls Try.prog 14 #[.pointer (some ⟨g, 0, none⟩), .int .i64 1] w fun e w' => e = .returned (.bool false) ∧ w = w' := by
  have c0 : w.cell? ⟨g, 0, none⟩ = some (.int .i64 l) := by simp [World.cell?, hg, mcell]
  clear hg
  have hl' : decide ((1 : Int) > l) = true := by simp; omega
  go_enter Try.func14, Try.ntmps14
  go_wp2
  go_ret
  exact ⟨rfl, rfl⟩

theorem take_yes (g : Nat) (l u c : Int) (w : World) (hg : w.heap[g]? = some (mcell l u c)) (hl : 1 ≤ l) (hl2 : l ≤ 9223372036854775807) (hu : 0 ≤ u) (hu2 : u + 1 ≤ 9223372036854775807) :
    Calls Try.prog 14 #[.pointer (some ⟨g, 0, none⟩), .int .i64 1] w fun e w' => e = .returned (.bool true) ∧ w' = ((w.setCell ⟨g, 0, none⟩ (.int .i64 (l - 1))).setCell ⟨g, 1, none⟩ (.int .i64 (u + 1))).drew := by
  have c0 : w.cell? ⟨g, 0, none⟩ = some (.int .i64 l) := by simp [World.cell?, hg, mcell]
  have c1 : w.cell? ⟨g, 1, none⟩ = some (.int .i64 u) := by simp [World.cell?, hg, mcell]
  have f0 : w.frozen? ⟨g, 0, none⟩ = false := by simp [World.frozen?, hg, mcell]
  have f1 : w.frozen? ⟨g, 1, none⟩ = false := by simp [World.frozen?, hg, mcell]
  clear hg
  have hl' : decide ((1 : Int) > l) = false := by simp; omega
  go_enter Try.func14, Try.ntmps14
  go_wp2
  go_region
  all_goals
    go_wp2
    go_ret
    exact ⟨rfl, rfl⟩

/-- what a step turns: the meter's block alone -/
structure Only (g : Nat) (w w' : World) : Prop where
  grown : w.grownBy w' (some g)
  size : w'.heap.size = w.heap.size

theorem Only.refl (g : Nat) (w : World) : Only g w w := ⟨⟨rfl, rfl, rfl, Nat.le_refl _, fun _ _ _ => rfl⟩, rfl⟩

theorem heap_set (w : World) (g i : Nat) (l u c : Int) (v : Value) (hg : w.heap[g]? = some (.cells #[.int .i64 l, .int .i64 u, .int .i64 c] 46 (0, 0))) :
    (w.setCell ⟨g, i, none⟩ v).heap[g]? = some (.cells ((#[.int .i64 l, .int .i64 u, .int .i64 c] : Array Value).setIfInBounds i v) 46 (0, 0)) := by
  obtain ⟨hlt, he⟩ := Array.getElem?_eq_some_iff.1 hg
  simp only [World.setCell, Array.getElem?_modify, hg]
  simp

theorem step_no (g : Nat) (l u c : Int) (w : World) (hg : w.heap[g]? = some (mcell l u c)) (hl : l ≤ 0) :
    Calls Try.prog 9 #[.pointer (some ⟨g, 0, none⟩)] w fun e w' => e = .returned (.int .i64 11) ∧ w = w' := by
  have H := Lib.hid hg
  clear hg
  go_enter Try.func9, Try.ntmps9
  go_wp2_with (go_at_call 14; refine (take_no g l u c _ H.out hl).mono ?_; rintro e w' ⟨rfl, rfl⟩)
  go_ret
  exact ⟨rfl, rfl⟩

theorem step_yes (g : Nat) (l u c : Int) (w : World) (hg : w.heap[g]? = some (mcell l u c)) (hl : 1 ≤ l) (hl2 : l ≤ 9223372036854775807) (hu : 0 ≤ u) (hu2 : u + 1 ≤ 9223372036854775807) :
    Calls Try.prog 9 #[.pointer (some ⟨g, 0, none⟩)] w fun e w' => e = .returned (.int .i64 0) ∧ w'.heap[g]? = some (mcell (l - 1) (u + 1) c) ∧ Only g w w' := by
  have H := Lib.hid hg
  clear hg
  go_enter Try.func9, Try.ntmps9
  go_wp2_with (go_at_call 14; refine (take_yes g l u c _ H.out hl hl2 hu hu2).mono ?_; rintro e w' ⟨rfl, rfl⟩)
  go_ret
  have hg := H.out
  have h1 := heap_set w g 0 l u c (.int .i64 (l - 1)) hg
  have h2 := heap_set (w.setCell ⟨g, 0, none⟩ (.int .i64 (l - 1))) g 1 (l - 1) u c (.int .i64 (u + 1)) (by simpa using h1)
  refine ⟨rfl, ?_, ⟨⟨rfl, rfl, rfl, ?_, ?_⟩, ?_⟩⟩
  · exact h2
  · simp [World.drew, World.setCell]
  · intro k hk hne
    have hk' : k ≠ g := fun h => hne (by rw [h])
    exact (Below.heap_setCell _ _ _ k hk').trans (Below.heap_setCell _ _ _ k hk')
  · simp [World.drew, World.setCell]

theorem used_any (g : Nat) (l u c : Int) (w : World) (hg : w.heap[g]? = some (mcell l u c)) :
    Calls Try.prog 10 #[.pointer (some ⟨g, 0, none⟩)] w fun e w' => e = .returned (.tuple #[.int .i64 u, .int .i64 l]) ∧ ∃ n, w' = w.drewN n := by
  have c0 : w.cell? ⟨g, 0, none⟩ = some (.int .i64 l) := by simp [World.cell?, hg, mcell]
  have c1 : w.cell? ⟨g, 1, none⟩ = some (.int .i64 u) := by simp [World.cell?, hg, mcell]
  clear hg
  go_enter Try.func10, Try.ntmps10
  go_wp2
  go_quiet (fail)
  go_wp2
  go_ret2
  exact ⟨rfl, _, rfl⟩
end Go.Proofs.Ytmalhpadnnlfjaa
