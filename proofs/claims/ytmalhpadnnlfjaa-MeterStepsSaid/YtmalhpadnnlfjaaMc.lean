/- Contract of the meter's Cells: how many cells an array that reads in memory has, boxes gone into. Conditions: the array reads so. -/
import Derived.Test.YtmalhpadnnlfjaaMb
namespace Go.Proofs.Ytmalhpadnnlfjaa
open Go.RowKit

/-- how a sum over a row of boxes goes on -/
def accJ (f : Nat → Int) (a : Int) : Nat → Int
  | 0 => a
  | j + 1 => wrap64 (accJ f a j + f j)
def accI (bn : Nat → Nat) (f : Nat → Nat → Int) (a : Int) : Nat → Int
  | 0 => a
  | i + 1 => accJ (f i) (accI bn f a i) (bn i)

/-- 'v' reads in 'w' as an array, so deep at most, of N cells in all. -/
def ArrN (w : World) : Nat → Value → Int → Prop
  | 0, _, _ => False
  | d + 1, v, N => ∃ (sA : Option Addr) (sn sc : Nat) (A : Option Addr) (n c : Nat) (kd nm : Nat → Int) (bA : Nat → Option Addr) (bn bc : Nat → Nat) (eA fA : Nat → Nat → Option Addr) (en ec fn fc : Nat → Nat → Nat) (f : Nat → Nat → Int),
     v = .agg #[.slice sA sn sc, .slice A n c] ∧ sn ≤ 9223372036854775807 ∧ n ≤ 9223372036854775807 ∧ N = accI bn f n n ∧
     (0 < n → ∃ b off, A = some ⟨b, off, none⟩ ∧ ∀ i, i < n → w.cell? ⟨b, off + i * 3, none⟩ = some (.int .i64 (kd i)) ∧ w.cell? ⟨b, off + i * 3 + 1, none⟩ = some (.int .i64 (nm i)) ∧ w.cell? ⟨b, off + i * 3 + 2, none⟩ = some (.slice (bA i) (bn i) (bc i)) ∧ bn i ≤ 9223372036854775807 ∧
       (0 < bn i → ∃ b' off', bA i = some ⟨b', off', none⟩ ∧ ∀ j, j < bn i → w.cell? ⟨b', off' + j * 2, none⟩ = some (.slice (eA i j) (en i j) (ec i j)) ∧ w.cell? ⟨b', off' + j * 2 + 1, none⟩ = some (.slice (fA i j) (fn i j) (fc i j)) ∧
          ArrN w d (.agg #[.slice (eA i j) (en i j) (ec i j), .slice (fA i j) (fn i j) (fc i j)]) (f i j)))

theorem ArrN.below {w w' : World} (hb : Below w.heap.size w w') : ∀ {d : Nat} {v : Value} {N : Int}, ArrN w d v N → ArrN w' d v N
  | 0, _, _, h => h.elim
  | d + 1, v, N, ⟨sA, sn, sc, A, n, c, kd, nm, bA, bn, bc, eA, fA, en, ec, fn, fc, f, h1, h2, h3, h4, h5⟩ => by
    refine ⟨sA, sn, sc, A, n, c, kd, nm, bA, bn, bc, eA, fA, en, ec, fn, fc, f, h1, h2, h3, h4, fun hn => ?_⟩
    obtain ⟨b, off, e, h⟩ := h5 hn
    refine ⟨b, off, e, fun i hi => ?_⟩
    obtain ⟨g1, g2, g3, g4, g5⟩ := h i hi
    refine ⟨cell_below hb g1, cell_below hb g2, cell_below hb g3, g4, fun hm => ?_⟩
    obtain ⟨b', off', e', k⟩ := g5 hm
    exact ⟨b', off', e', fun j hj => ⟨cell_below hb (k j hj).1, cell_below hb (k j hj).2.1, ArrN.below hb (k j hj).2.2⟩⟩

set_option maxHeartbeats 1000000 in
theorem cells_any (d : Nat) : ∀ (v : Value) (N : Int) (w : World), ArrN w d v N → Calls Try.prog 16 #[v] w fun e w' => e = .returned (.int .i64 N) ∧ Below w.heap.size w w' := by
  induction d with
  | zero => intro _ _ _ h; exact h.elim
  | succ d ih0 =>
    intro v N w h
    obtain ⟨sA, sn, sc, A, n, c, kd, nm, bA, bn, bc, eA, fA, en, ec, fn, fc, f, h1, h2, h3, h4, h5⟩ := h
    have ih := Lib.hid ih0
    clear ih0
    subst h1
    have HN := Lib.hid h4
    have H5 := Lib.hid h5
    clear h4 h5
    go_enter Try.func16, Try.ntmps16
    go_wp2
    go_loopw [3, 14] (fun acc i wr => ∃ k : Nat, k ≤ n ∧ i = .int .i64 k ∧ acc = .int .i64 (accI bn f n k) ∧ Below w.heap.size w wr) (fun _ i _ => n - (intOf i).toNat)
    case atStart => exact ⟨0, Nat.zero_le _, rfl, rfl, (Below.refl _ _).alloc (Nat.le_refl _) _⟩
    case round =>
      obtain ⟨k, hk, rfl, rfl, hb⟩ := hrel
      by_cases hlt : k < n
      · obtain ⟨b, off, rfl, h⟩ := H5.out (by omega)
        obtain ⟨g1, g2, g3, g4, g5⟩ := h k hlt
        have c1 := (hb.cell (p := ⟨b, off + k * 3, none⟩) (World.block_lt_of_cell? w _ g1)).trans g1
        have c2 := (hb.cell (p := ⟨b, off + k * 3 + 1, none⟩) (World.block_lt_of_cell? w _ g2)).trans g2
        have c3 := (hb.cell (p := ⟨b, off + k * 3 + 2, none⟩) (World.block_lt_of_cell? w _ g3)).trans g3
        have G5 := Lib.hid g5
        have HB := Lib.hid hb
        have HG := Lib.hid h
        clear h g1 g2 g3 g5 hb
        go_wp2
        have hb2 : Below w.heap.size w (wr.alloc (Obj.cells #[Value.int IntKind.i64 (kd k), Value.int IntKind.i64 (nm k), Value.slice (bA k) (bn k) (bc k)] 56)) := (HB.out).alloc (HB.out).size _
        generalize wr.alloc (Obj.cells #[Value.int IntKind.i64 (kd k), Value.int IntKind.i64 (nm k), Value.slice (bA k) (bn k) (bc k)] 56) = wo at hb2 ⊢
        clear c1 c2 c3 HB
        go_loopw [3, 21] (fun acc j wr => ∃ q : Nat, q ≤ bn k ∧ j = .int .i64 q ∧ acc = .int .i64 (accJ (f k) (accI bn f n k) q) ∧ Below w.heap.size w wr) (fun _ j _ => bn k - (intOf j).toNat)
        case atStart => exact ⟨0, Nat.zero_le _, rfl, rfl, hb2⟩
        case round =>
          obtain ⟨q, hq, rfl, rfl, hb⟩ := hrel
          by_cases hlt2 : q < bn k
          · obtain ⟨b', off', hA, h'⟩ := G5.out (by omega)
            obtain ⟨m1, m2, m3⟩ := h' q hlt2
            have d1 := (hb.cell (p := ⟨b', off' + q * 2, none⟩) (World.block_lt_of_cell? w _ m1)).trans m1
            have d2 := (hb.cell (p := ⟨b', off' + q * 2 + 1, none⟩) (World.block_lt_of_cell? w _ m2)).trans m2
            have M3 := Lib.hid (m3.below (w' := wr.alloc (Obj.cells #[.slice (eA k q) (en k q) (ec k q), .slice (fA k q) (fn k q) (fc k q)] 38)) (hb.alloc hb.size _))
            have HB := Lib.hid hb
            clear h' m1 m2 m3 hb
            rw [hA]
            go_wp2_with fail
            refine (ih.out _ _ _ M3.out).mono ?_
            rintro e w1 ⟨rfl, hb1⟩
            have hb3 : Below w.heap.size w w1 := below_then ((HB.out).alloc (HB.out).size _) (by have := (HB.out).size; simp; omega) hb1
            have HB3 := Lib.hid hb3
            clear hb1 hb3
            go_wp2
            go_roundw
            case rel => exact ⟨q + 1, by omega, by go_num, rfl, HB3.out⟩
            case measure => simp [intOf]; omega
          · obtain rfl : q = bn k := by omega
            go_wp2
            go_roundw
            case rel => exact ⟨k + 1, by omega, by go_num, rfl, hb⟩
            case measure => simp [intOf]; omega
      · obtain rfl : k = n := by omega
        have hf := Lib.hid HN.out
        go_wp2
        go_ret
        exact ⟨by rw [HN.out]; rfl, hb⟩
end Go.Proofs.Ytmalhpadnnlfjaa
