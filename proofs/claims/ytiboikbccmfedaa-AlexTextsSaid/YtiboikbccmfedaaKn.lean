/- Contracts of the reference's comparison of arrays, for two arrays that say the same. Conditions: both read in memory. -/
import Derived.Test.YtiboikbccmfedaaKi
namespace Go.Proofs.Ytiboikbccmfedaa
open Go.RowKit

set_option maxRecDepth 100000 in
theorem ints_same (a : Int) (w : World) : Calls Try.prog 28 #[.int .i64 a, .int .i64 a] w (fun e w' => e = .returned (.int .i64 0) ∧ w' = w) := by
  have h1 : decide (a < a) = false := decide_eq_false (by omega)
  go_enter Try.func28, Try.ntmps28
  go_wp2
  refine bodyPost_ret (v := .int .i64 0) (by simp [results, Try.results28, go_sem]) rfl ?_
  exact ⟨rfl, rfl⟩

set_option maxRecDepth 100000 in
theorem cell_same (k n : Int) (w : World) : Calls Try.prog 29 #[.agg #[.int .i64 k, .int .i64 n, .slice none 0 0], .agg #[.int .i64 k, .int .i64 n, .slice none 0 0]] w (fun e w' => e = .returned (.int .i64 0) ∧ Below w.heap.size w w') := by
  go_enter Try.func29, Try.ntmps29
  go_wp2_with fail
  refine (ints_same _ _).mono ?_
  rintro e w1 ⟨rfl, rfl⟩
  go_wp2_with fail
  refine (ints_same _ _).mono ?_
  rintro e w1 ⟨rfl, rfl⟩
  go_wp2_with fail
  refine (ints_same _ _).mono ?_
  rintro e w1 ⟨rfl, rfl⟩
  go_wp2
  refine bodyPost_ret (v := .int .i64 0) (by simp [results, Try.results29, go_sem]) rfl ?_
  exact ⟨rfl, ((Below.refl _ _).alloc (Nat.le_refl _) _).alloc (by simp) _⟩
/-- cmp: what a row's cell reads as, wherever memory has grown -/
theorem RowIn.at {S : Nat → Prop} {w wr : World} {A : Option Addr} {vs : List Value} (h : RowIn S w A vs) (hb : Below w.heap.size w wr) {i : Nat} {u : Value} (hu : vs[i]? = some u) : ∃ b, A = some ⟨b, 0, none⟩ ∧ b < wr.heap.size ∧ wr.cell? ⟨b, i, none⟩ = some u := by
  obtain ⟨b, e, _, hlt, hc⟩ := h (by have := (List.getElem?_eq_some_iff.1 hu).1; omega)
  exact ⟨b, e, Nat.lt_of_lt_of_le hlt hb.size, (cell_of_heap (hb.block b hlt) i).trans (hc i u hu)⟩
theorem nums_at (k : IntKind) (xs : List Int) (i : Nat) (h : i < xs.length) : (nums k xs)[i]? = some (.int k (xs.getD i 0)) := by
  simp [nums, h, List.getD_eq_getElem?_getD]
theorem cels_at : ∀ (cs : List (Int × Int)) (i : Nat), i < cs.length → (cels cs)[i * 3]? = some (.int .i64 (cs.getD i (0, 0)).1) ∧ (cels cs)[i * 3 + 1]? = some (.int .i64 (cs.getD i (0, 0)).2) ∧ (cels cs)[i * 3 + 2]? = some (.slice none 0 0)
  | [], i, h => absurd h (Nat.not_lt_zero _)
  | c :: cs, 0, _ => ⟨rfl, rfl, rfl⟩
  | c :: cs, i + 1, h => by
    have ih := cels_at cs i (by simpa using h)
    have e : cels (c :: cs) = .int .i64 c.1 :: .int .i64 c.2 :: .slice none 0 0 :: cels cs := rfl
    rw [e]
    refine ⟨?_, ?_, ?_⟩
    · rw [show (i + 1) * 3 = i * 3 + 1 + 1 + 1 by omega]; simpa using ih.1
    · rw [show (i + 1) * 3 + 1 = i * 3 + 1 + 1 + 1 + 1 by omega]; simpa using ih.2.1
    · rw [show (i + 1) * 3 + 2 = i * 3 + 2 + 1 + 1 + 1 by omega]; simpa using ih.2.2

set_option maxRecDepth 100000 in
set_option maxHeartbeats 4000000 in
theorem cmp_same {S T : Nat → Prop} {va vb : Value} {t : Kx.Lit} (w : World) (ha : LitAt S w va t) (hb : LitAt T w vb t) : Calls Try.prog 17 #[va, vb] w (fun e w' => e = .returned (.int .i64 0) ∧ Below w.heap.size w w') := by
  obtain ⟨A, n, c, B, m, d, rfl, hn, hm, hn6, hm6, hA, hB⟩ := ha
  obtain ⟨A2, n2, c2, B2, m2, d2, rfl, hn2, hm2, _, _, hA2, hB2⟩ := hb
  obtain rfl : n2 = n := by omega
  obtain rfl : m2 = m := by omega
  have HA := Lib.hid hA
  have HB := Lib.hid hB
  have HA2 := Lib.hid hA2
  have HB2 := Lib.hid hB2
  have HN := Lib.hid hn
  have HM := Lib.hid hm
  clear hA hB hA2 hB2 hn hm hn2 hm2
  go_enter Try.func17, Try.ntmps17
  go_wp2_with fail
  refine (ints_same _ _).mono ?_
  rintro e w1 ⟨rfl, rfl⟩
  generalize hR : w.heap.size = R
  have h0 : Below R w ((w.alloc (Obj.cells #[.slice A n2 c, .slice B m2 d] 32)).alloc (Obj.cells #[.slice A2 n2 c2, .slice B2 m2 d2] 32)) ∧ ((w.alloc (Obj.cells #[.slice A n2 c, .slice B m2 d] 32)).alloc (Obj.cells #[.slice A2 n2 c2, .slice B2 m2 d2] 32)).heap[R]? = some (.cells #[.slice A n2 c, .slice B m2 d] 32 (0, 0)) ∧ ((w.alloc (Obj.cells #[.slice A n2 c, .slice B m2 d] 32)).alloc (Obj.cells #[.slice A2 n2 c2, .slice B2 m2 d2] 32)).heap[R + 1]? = some (.cells #[.slice A2 n2 c2, .slice B2 m2 d2] 32 (0, 0)) := by
    rw [← hR]
    refine ⟨((Below.refl _ _).alloc (Nat.le_refl _) _).alloc (by simp) _, blk_alloc (blk_new w _) _, ?_⟩
    have := blk_new (w.alloc (Obj.cells #[.slice A n2 c, .slice B m2 d] 32)) (Obj.cells #[.slice A2 n2 c2, .slice B2 m2 d2] 32)
    rw [show (w.alloc (Obj.cells #[.slice A n2 c, .slice B m2 d] 32)).heap.size = w.heap.size + 1 by simp] at this
    exact this
  have HR := Lib.hid hR
  have H0 := Lib.hid h0
  clear hR h0
  go_wp2
  go_loopw [5, 6] (fun o i wr => ∃ k : Nat, k ≤ n2 ∧ i = .int .i64 k ∧ o = .int .i64 0 ∧ Below R w wr ∧ wr.heap[R]? = some (.cells #[.slice A n2 c, .slice B m2 d] 32 (0, 0)) ∧ wr.heap[R + 1]? = some (.cells #[.slice A2 n2 c2, .slice B2 m2 d2] 32 (0, 0))) (fun _ i _ => n2 - (intOf i).toNat)
  case atStart => exact ⟨0, Nat.zero_le _, rfl, rfl, H0.out⟩
  case round =>
    obtain ⟨k, hk, rfl, rfl, hbel, hb1, hb2⟩ := hrel
    have x0 := blk_cell hb1 0
    have x1 := blk_cell hb1 1
    have y0 := blk_cell hb2 0
    have y1 := blk_cell hb2 1
    by_cases hlt : k < n2
    · obtain ⟨p, rfl, hp, cp⟩ := HA.out.at (HR.out ▸ hbel) (nums_at .i64 t.shape k (by rw [← HN.out]; exact hlt))
      obtain ⟨q, rfl, hq, cq⟩ := HA2.out.at (HR.out ▸ hbel) (nums_at .i64 t.shape k (by rw [← HN.out]; exact hlt))
      have HBEL := Lib.hid hbel
      have HB1 := Lib.hid hb1
      have HB2' := Lib.hid hb2
      clear hbel hb1 hb2
      go_wp2
      go_quiet ((go_at_call 28; exact Calls.quiet_of_same (ints_same _ _)))
      go_wp2
      go_roundw
      case rel => exact ⟨k + 1, by omega, by go_num, rfl, below_drewN HBEL.out _, by simpa using HB1.out, by simpa using HB2'.out⟩
      case measure => simp [intOf]; omega
    · obtain rfl : n2 = k := by omega
      have HBEL := Lib.hid hbel
      have HB1 := Lib.hid hb1
      have HB2' := Lib.hid hb2
      clear hbel hb1 hb2
      go_wp2
      clear x0 x1 y0 y1
      go_loopw [5, 7] (fun o i wr => ∃ k : Nat, k ≤ m2 ∧ i = .int .i64 k ∧ o = .int .i64 0 ∧ Below R w wr ∧ wr.heap[R]? = some (.cells #[.slice A n2 c, .slice B m2 d] 32 (0, 0)) ∧ wr.heap[R + 1]? = some (.cells #[.slice A2 n2 c2, .slice B2 m2 d2] 32 (0, 0))) (fun _ i _ => m2 - (intOf i).toNat)
      case atStart => exact ⟨0, Nat.zero_le _, rfl, rfl, HBEL.out, HB1.out, HB2'.out⟩
      case round =>
        obtain ⟨k, hk, rfl, rfl, hbel, hb1, hb2⟩ := hrel
        have x0 := blk_cell hb1 0
        have x1 := blk_cell hb1 1
        have y0 := blk_cell hb2 0
        have y1 := blk_cell hb2 1
        by_cases hlt : k < m2
        · have hkt : k < t.cells.length := by rw [← HM.out]; exact hlt
          obtain ⟨p, rfl, hp, cp⟩ := HB.out.at (HR.out ▸ hbel) (cels_at t.cells k hkt).1
          obtain ⟨p', hpe, _, cp1⟩ := HB.out.at (HR.out ▸ hbel) (cels_at t.cells k hkt).2.1
          cases hpe
          obtain ⟨p', hpe, _, cp2⟩ := HB.out.at (HR.out ▸ hbel) (cels_at t.cells k hkt).2.2
          cases hpe
          obtain ⟨q, rfl, hq, cq⟩ := HB2.out.at (HR.out ▸ hbel) (cels_at t.cells k hkt).1
          obtain ⟨q', hpe, _, cq1⟩ := HB2.out.at (HR.out ▸ hbel) (cels_at t.cells k hkt).2.1
          cases hpe
          obtain ⟨q', hpe, _, cq2⟩ := HB2.out.at (HR.out ▸ hbel) (cels_at t.cells k hkt).2.2
          cases hpe
          generalize (t.cells.getD k (0, 0)).1 = ck at *
          generalize (t.cells.getD k (0, 0)).2 = cn at *
          have HBEL := Lib.hid hbel
          have HB1 := Lib.hid hb1
          have HB2' := Lib.hid hb2
          have HHp := Lib.hid hp
          have hRs := Lib.hid (blk_lt hb1)
          have hRs2 := Lib.hid (blk_lt hb2)
          clear hbel hb1 hb2 hkt
          go_wp2
          go_region_with (go_at_call 29; refine (cell_same _ _ _).mono ?_; rintro e w3 ⟨rfl, hb3⟩)
          all_goals
            have q1 := below_then HBEL.out.drew (by have := HBEL.out.drew.size; rw [HR.out] at this; exact this) hb3
            have q2 := blk_below (w := wr) HB1.out ((Below.refl _ _).drew.trans hb3) hRs.out
            have q3 := blk_below (w := wr) HB2'.out ((Below.refl _ _).drew.trans hb3) hRs2.out
            have Q1 := Lib.hid q1
            have Q2 := Lib.hid q2
            have Q3 := Lib.hid q3
            clear q1 q2 q3 hb3
            go_wp2
            go_roundw
            case rel => exact ⟨k + 1, by omega, by go_num, rfl, Q1.out, Q2.out, Q3.out⟩
            case measure => simp [intOf]; omega
        · obtain rfl : m2 = k := by omega
          go_wp2_with fail
          refine (ints_same _ _).mono ?_
          rintro e w1 ⟨rfl, rfl⟩
          go_wp2
          refine bodyPost_ret (v := .int .i64 0) (by simp [results, Try.results17, go_sem]) rfl ?_
          exact ⟨rfl, HR.out ▸ hbel⟩
theorem same_same {S T : Nat → Prop} {va vb : Value} {t : Kx.Lit} (w : World) (ha : LitAt S w va t) (hb : LitAt T w vb t) : Calls Try.prog 11 #[va, vb] w (fun e w' => e = .returned (.bool true) ∧ Below w.heap.size w w') := by
  have hal := (Below.refl _ w).alloc (Nat.le_refl _)
  obtain ⟨A, n, c, B, m, d, rfl, hA⟩ := id ha
  obtain ⟨A2, n2, c2, B2, m2, d2, rfl, hB⟩ := id hb
  have HA := Lib.hid ha
  have HB := Lib.hid hb
  clear ha hb hA hB hal
  go_enter Try.func11, Try.ntmps11
  go_wp2_with fail
  have hbb : Below w.heap.size w ((w.alloc (Obj.cells #[.slice A n c, .slice B m d] 32)).alloc (Obj.cells #[.slice A2 n2 c2, .slice B2 m2 d2] 32)) := ((Below.refl _ _).alloc (Nat.le_refl _) _).alloc (by simp) _
  refine (cmp_same _ (HA.out.below hbb) (HB.out.below hbb)).mono ?_
  rintro e w1 ⟨rfl, h1⟩
  have h2 := below_then hbb hbb.size h1
  have H2 := Lib.hid h2
  clear hbb h1 h2
  go_wp2
  refine bodyPost_ret (v := .bool true) (by simp [results, Try.results11, go_sem]) rfl ?_
  exact ⟨rfl, H2.out⟩
end Go.Proofs.Ytiboikbccmfedaa
