/- A slice argument of whole numbers is no longer than the row's reach lets it be. -/
import Derived.SizedLaws
import Derived.ChangeSlices
namespace Go.Proofs.Ytiboikbccmfedaa
open Go.ChangeShapes Go.WideShapes

theorem reach_ints {H : Type} {enc : TypeId × Value → H} {P : Program} {W : World} {base : Nat} {spare : Nat → Bool} {held : Bool} {t e : TypeId} {k : IntKind} {a : Option Addr} {n c : Nat} {d : DataW H} {ps : List MemPlace} {ts : List TypeId} {ds : List (DataW H)} {j B : Nat}
    (hall : (DataW.weightsEach P ts ds).all (· ≤ reachBytes) = true) (h1 : ts[j]? = some t) (h2 : ds[j]? = some d) (hu : P.underlying t = some (.slice e)) (he : P.underlying e = some (.int k)) (hc : P.cellsOf e = 1) (hB : P.bytesOf e = B)
    (h : DataW.Trod enc P W base spare held t (.slice a n c) d ps) : n * B ≤ 140737488351232 := by
  obtain ⟨f, hf⟩ := h
  rcases open_ints hu he hc hf with ⟨hcs, _⟩ | ⟨x, l, cc, zs, hcs, _, hl, _, hz, hx, _, _⟩ <;> simp [Value.cells] at hcs
  · rw [hcs.2.1, Nat.zero_mul]; omega
  · obtain ⟨_, rfl, rfl⟩ := hcs
    obtain rfl := (Prod.mk.inj hx).1
    have w := sized_slice hall h1 h2 hu
    rw [hB] at w
    refine Nat.le_trans (Nat.mul_le_mul_right B ?_) w
    have : n ≤ zs.length := by rw [hz]; split <;> omega
    simp [lits]
    omega
end Go.Proofs.Ytiboikbccmfedaa
