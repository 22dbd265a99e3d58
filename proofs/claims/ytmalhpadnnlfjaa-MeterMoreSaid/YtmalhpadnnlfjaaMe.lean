/- Contract of the law's works: it returns true in any memory. Conditions: none. -/
import Derived.Test.YtmalhpadnnlfjaaMd
namespace Go.Proofs.Ytmalhpadnnlfjaa
open Go.RowKit

/-- a new meter, its block a letter -/
def NewAt (a b : Int) (w : World) (e : Ending) (w' : World) : Prop := ∃ g, e = .returned (.pointer (some ⟨g, 0, none⟩)) ∧ w'.heap[g]? = some (mcell (max a 0) 0 (max b 0)) ∧ w.heap.size ≤ g ∧ Below w.heap.size w w'
theorem new_at (a b : Int) (w : World) (ha : a ≤ 9223372036854775807) (hb : b ≤ 9223372036854775807) : Calls Try.prog 6 #[.int .i64 a, .int .i64 b] w (NewAt a b w) :=
  (new_any a b w ha hb).mono fun e w' ⟨he, hw⟩ => ⟨w.heap.size, he, by rw [hw]; exact blk_new _ _, Nat.le_refl _, by rw [hw]; exact (Below.refl _ _).alloc (Nat.le_refl _) _⟩

theorem only_below {g : Nat} {w w1 w2 : World} {B : Nat} (h : Below B w w1) (hB : B ≤ g) (k : Only g w1 w2) : Below B w w2 := by
  refine ⟨k.grown.os.trans h.os, k.grown.tape.trans h.tape, k.grown.output.trans h.output, Nat.le_trans h.size k.grown.size, fun i hi => ?_⟩
  by_cases hs : i < w1.heap.size
  · exact (k.grown.block i hs (by simp; omega)).trans (h.block i hi)
  · have h1 := h.block i hi
    rw [Array.getElem?_eq_none (by omega)] at h1
    rw [← h1, Array.getElem?_eq_none (by rw [k.size]; omega)]

def Works (w : World) (e : Ending) (w' : World) : Prop := e = .returned (.bool true) ∧ Below w.heap.size w w'

set_option maxRecDepth 100000 in
set_option maxHeartbeats 1000000 in
theorem works_any (w : World) : Calls Try.prog 11 #[] w (Works w) := by
  go_enter Try.func11, Try.ntmps11
  go_wp2_with fail
  refine (new_at 1 2 _ (by omega) (by omega)).mono ?_
  rintro e w1 ⟨g, rfl, hg1, hgs, hb1⟩
  have HG1 := Lib.hid (show w1.heap[g]? = some (mcell 1 0 2) from hg1)
  have HB1 := Lib.hid hb1
  clear hg1 hb1
  go_wp2_with fail
  refine (step_yes g 1 0 2 _ HG1.out (by omega) (by omega) (by omega) (by omega)).mono ?_
  rintro e w2 ⟨rfl, hg2, ho⟩
  have HG2 := Lib.hid (show w2.heap[g]? = some (mcell 0 1 2) from hg2)
  have HB2 := Lib.hid (only_below HB1.out hgs ho)
  clear hg2 ho
  go_wp2_with fail
  refine (step_no g 0 1 2 _ HG2.out (by omega)).mono ?_
  rintro e w3 ⟨rfl, rfl⟩
  go_wp2_with fail
  refine (used_any g 0 1 2 _ HG2.out).mono ?_
  rintro e w3 ⟨rfl, n3, rfl⟩
  go_wp2_with fail
  have hb3 := Lib.hid (((below_drewN HB2.out n3)).alloc (HB2.out).size (Obj.cells #[Value.int IntKind.i64 1, Value.int IntKind.i64 2, Value.int IntKind.i64 3] 2))
  have hg3 := Lib.hid (blk_alloc (blk_drewN HG2.out n3) (Obj.cells #[Value.int IntKind.i64 1, Value.int IntKind.i64 2, Value.int IntKind.i64 3] 2))
  refine (nums_any _ 0 3 3 [1, 2, 3] _ rfl (by omega) ?_).mono ?_
  · intro i hi
    have h := blk_cell (blk_new (w2.drewN n3) (Obj.cells #[Value.int IntKind.i64 1, Value.int IntKind.i64 2, Value.int IntKind.i64 3] 2)) i
    rw [Nat.zero_add]
    refine Eq.trans (by simpa using h) ?_
    match i, hi with
    | 0, _ => rfl
    | 1, _ => rfl
    | 2, _ => rfl
  rintro e w4 ⟨v4, rfl, ho4, hb4⟩
  have HA := Lib.hid (fun b : Nat => flat_arrN (sA := some ⟨b, 0, none⟩) (sn := 1) (sc := 1) ho4 rfl (by omega) (by omega))
  have HG4 := Lib.hid (blk_below hg3.out hb4 (blk_lt hg3.out))
  have HB4 := Lib.hid (below_then hb3.out hb3.out.size hb4)
  clear ho4 hb4
  go_wp2_with fail
  refine (hold_any g 0 1 2 _ _ _ _ HG4.out (HA.out _)).mono ?_
  rintro e w5 ⟨rfl, hb5⟩
  have HB5 := Lib.hid (below_then HB4.out HB4.out.size hb5)
  clear hb5
  go_wp2_with fail
  refine (atom_any 1 _).mono ?_
  rintro e w6 ⟨v6, rfl, ho6, hb6⟩
  have HA6 := Lib.hid (flat_arrN (sA := none) (sn := 0) (sc := 0) ho6 rfl (by omega) (by omega))
  have HB6 := Lib.hid (below_then HB5.out HB5.out.size hb6)
  clear ho6 hb6
  go_wp2_with fail
  refine (cells_any _ _ _ _ HA6.out).mono ?_
  rintro e w7 ⟨rfl, hb7⟩
  have HB7 := Lib.hid (below_then HB6.out HB6.out.size hb7)
  clear hb7
  go_wp2
  go_ret
  exact ⟨rfl, HB7.out⟩
end Go.Proofs.Ytmalhpadnnlfjaa
