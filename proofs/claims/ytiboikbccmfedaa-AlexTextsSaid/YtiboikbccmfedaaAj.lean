/- The library's Contains over a text's bytes, in the words of the plain laws. Conditions: the library's variable holds an int. -/
import Derived.Test.YtiboikbccmfedaaAd
import Derived.Test.YtiboikbccmfedaaAi
namespace Go.Proofs.Ytiboikbccmfedaa
open Go.RowKit

theorem index_low : ∀ l w : List UInt8, -1 ≤ Lib.index l w
  | [], w => by unfold Lib.index; split <;> omega
  | b :: l, w => by
    have := index_low l w
    unfold Lib.index
    split
    · omega
    · split <;> omega
theorem contains_has : ∀ l w : List UInt8, Lib.contains l w = Kx.has (l.map fun x => ((x.toNat : Nat) : Int)) (w.map fun x => ((x.toNat : Nat) : Int))
  | [], w => by
    unfold Lib.contains Lib.index
    cases w <;> rfl
  | b :: l, w => by
    have ih := contains_has l w
    have hlow := index_low l w
    unfold Lib.contains at ih ⊢
    unfold Lib.index
    show _ = ((w.map fun x => ((x.toNat : Nat) : Int)).isPrefixOf ((b :: l).map fun x => ((x.toNat : Nat) : Int)) || Kx.has (l.map fun x => ((x.toNat : Nat) : Int)) (w.map fun x => ((x.toNat : Nat) : Int)))
    rw [prefix_map, ← ih]
    cases hp : w.isPrefixOf (b :: l)
    · simp only [Bool.false_eq_true, if_false, Bool.false_or]
      by_cases h : Lib.index l w = -1
      · rw [h]; rfl
      · rw [if_neg (by simpa using h), decide_eq_true (by omega), decide_eq_true (by omega)]
    · simp
/-- the library's own variable, of which nothing is told but that it is an int -/
def Glob (w : World) : Prop := ∃ m : Int, w.cell? ⟨0, 0, none⟩ = some (.int .i64 m)
theorem Glob.below {w w' : World} (h : Glob w) (hb : Below w.heap.size w w') : Glob w' := by
  obtain ⟨m, hm⟩ := h
  exact ⟨m, cell_below hb hm⟩
theorem Glob.grown {w w' : World} {g : Nat} (h : Glob w) (hb : w.grownBy w' (some g)) (hg : g ≠ 0) : Glob w' := by
  obtain ⟨m, hm⟩ := h
  have hlt := World.block_lt_of_cell? w _ hm
  exact ⟨m, (World.cell?_of_block (hb.block 0 hlt (fun e => hg (by cases e; rfl)))).trans hm⟩
theorem contains_any (s p : ByteArray) (w : World) (hs : s.size ≤ 1000000) (hg : Glob w) : Calls Try.prog 39 #[.string s, .string p] w fun e w' => e = .returned (.bool (Kx.has (nb s) (nb p))) ∧ w' = w := by
  obtain ⟨m, hm⟩ := hg
  have := Try.strings_Contains s p m w (by omega) hm
  rw [contains_has] at this
  exact this
end Go.Proofs.Ytiboikbccmfedaa
