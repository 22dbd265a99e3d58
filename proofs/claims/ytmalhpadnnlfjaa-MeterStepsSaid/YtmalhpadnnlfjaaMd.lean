/- Contracts of Atom and of the meter's Hold. Conditions: the meter's block and the array read in memory. -/
import Derived.Test.YtmalhpadnnlfjaaMc
namespace Go.Proofs.Ytmalhpadnnlfjaa
open Go.RowKit

theorem accI_zero (f : Nat → Nat → Int) (a : Int) (n : Nat) : accI (fun _ => 0) f a n = a := by
  induction n with
  | zero => rfl
  | succ n ih => simp only [accI, accJ]; exact ih

theorem ncells_get (zs : List Int) (i : Nat) (hi : i < zs.length) : (ncells zs)[i * 3]? = some (.int .i64 0) ∧ (ncells zs)[i * 3 + 1]? = some (.int .i64 (zs.getD i 0)) ∧ (ncells zs)[i * 3 + 2]? = some (.slice none 0 0) := by
  induction zs generalizing i with
  | nil => simp at hi
  | cons z r ih =>
    cases i with
    | zero => simp [ncells, ncell]
    | succ i =>
      obtain ⟨h1, h2, h3⟩ := ih i (by simpa using hi)
      have e : ncells (z :: r) = ncell z ++ ncells r := by simp [ncells]
      have l : (ncell z).length = 3 := rfl
      rw [e]
      refine ⟨?_, ?_, ?_⟩
      · rw [List.getElem?_append_right (by omega), l, show (i + 1) * 3 - 3 = i * 3 by omega]; exact h1
      · rw [List.getElem?_append_right (by omega), l, show (i + 1) * 3 + 1 - 3 = i * 3 + 1 by omega]; simpa using h2
      · rw [List.getElem?_append_right (by omega), l, show (i + 1) * 3 + 2 - 3 = i * 3 + 2 by omega]; exact h3

theorem flat_arrN {w : World} {base n : Nat} {v : Value} {zs : List Int} {sA : Option Addr} {sn sc : Nat} (h : w.ownsRow base 56 3 v n (ncells zs)) (hz : zs.length = n) (hs : sn ≤ 9223372036854775807) (hn : n ≤ 9223372036854775807) :
    ArrN w 1 (.agg #[.slice sA sn sc, v]) n := by
  obtain ⟨A, c, rfl, hc⟩ := own_slice h
  refine ⟨sA, sn, sc, A, n, c, fun _ => 0, fun i => zs.getD i 0, fun _ => none, fun _ => 0, fun _ => 0, fun _ _ => none, fun _ _ => none, fun _ _ => 0, fun _ _ => 0, fun _ _ => 0, fun _ _ => 0, fun _ _ => 0, rfl, hs, hn, (accI_zero _ _ _).symm, fun hp => ?_⟩
  obtain ⟨g, cap, hv, _⟩ := h.form hp
  cases hv
  refine ⟨g, 0, rfl, fun i hi => ?_⟩
  obtain ⟨h1, h2, h3⟩ := ncells_get zs i (by omega)
  refine ⟨?_, ?_, ?_, Nat.zero_le _, fun h => absurd h (Nat.lt_irrefl 0)⟩
  · rw [Nat.zero_add, h.cellAt _ (by omega), h1]
  · rw [Nat.zero_add, h.cellAt _ (by omega), h2]
  · rw [Nat.zero_add, h.cellAt _ (by omega), h3]

theorem atom_any (x : Int) (w : World) :
    Calls Try.prog 17 #[.int .i64 x] w fun e w' => ∃ v, e = .returned (.agg #[.slice none 0 0, v]) ∧ w'.ownsRow w.heap.size 56 3 v 1 (ncells [x]) ∧ Below w.heap.size w w' := by
  go_enter Try.func17, Try.ntmps17
  go_wp2
  refine bodyPost_ret (v := .agg #[.slice none 0 0, .slice (some ⟨w.heap.size + 1, 0, none⟩) 1 1]) (by simp [results, Try.results17, go_sem]) rfl ?_
  refine ⟨_, rfl, ?_, ?_⟩
  · simpa [ncells, ncell] using World.ownsRow_lit (base := w.heap.size) (e := 56) (size := 3) (w.alloc (Obj.cells #[Value.slice none 0 0, Value.slice (some { block := w.heap.size + 1, off := 0 }) 1 1] 38)) #[Value.int IntKind.i64 0, Value.int IntKind.i64 x, Value.slice none 0 0] 1 (by simp) (by unfold maxLen; omega) rfl
  · exact ((Below.refl _ _).alloc (Nat.le_refl _) _).alloc (by simp) _

def Holds (c N : Int) (w : World) (e : Ending) (w' : World) : Prop := e = .returned (.int .i64 (if N > c then 12 else 0)) ∧ Below w.heap.size w w'

theorem hold_any (g : Nat) (l u c : Int) (d : Nat) (v : Value) (N : Int) (w : World) (hg : w.heap[g]? = some (mcell l u c)) (hv : ArrN w d v N) :
    Calls Try.prog 13 #[.pointer (some ⟨g, 0, none⟩), v] w (Holds c N w) := by
  have c2 := blk_cell hg 2
  have hlt := blk_lt hg
  have HV := Lib.hid hv
  have hform : ∃ x y, v = .agg #[x, y] := by
    cases d with
    | zero => exact hv.elim
    | succ d => obtain ⟨sA, sn, sc, A, n, cc, _, _, _, _, _, _, _, _, _, _, _, _, h1, _⟩ := hv; exact ⟨_, _, h1⟩
  obtain ⟨x, y, rfl⟩ := hform
  clear hg hv
  go_enter Try.func13, Try.ntmps13
  go_wp2
  go_region_with
    (go_at_call 16; refine (cells_any d _ N _ (HV.out.below (by repeat (first | exact Below.refl _ _ | apply Below.drew | (refine Below.alloc ?_ (by simp) _))))).mono ?_; rintro e w1 ⟨rfl, hb1⟩; have d2 := (hb1.cell (p := ⟨g, 2, none⟩) (by simp; omega)))
  all_goals
    have hb2 : Below w.heap.size w w1 := below_then (((Below.refl w.heap.size w).alloc (Nat.le_refl _) (Obj.cells #[x, y] 38)).drew) (by simp) hb1
    clear hb1 d2
    by_cases hcN : c < N
    all_goals
      go_wp2
      go_ret
      exact ⟨by simp [hcN], hb2⟩
end Go.Proofs.Ytmalhpadnnlfjaa
