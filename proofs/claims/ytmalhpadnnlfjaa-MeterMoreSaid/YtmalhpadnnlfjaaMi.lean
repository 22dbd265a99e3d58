/- The walk of MeterMore: for all numbers and every array the law returns true. Conditions: the numbers are of their kinds, the array reads in memory. -/
import Derived.Test.YtmalhpadnnlfjaaMh
namespace Go.Proofs.Ytmalhpadnnlfjaa
open Go.RowKit

def mxv (x y : Int) : Int := if x < y then y else x
theorem max2_mxv (k k' : IntKind) (x y : Int) : Builtin.max2 (.int k x) (.int k' y) = pure (.int k (mxv x y)) := by simp only [Builtin.max2, gt_iff_lt, mxv]
theorem max_mxv (ats : Array TypeId) (ty : TypeId) (a b : Value) : Builtin.max_ ats ty #[a, b] = (Builtin.max2 a b >>= fun s => pure s) := by simp only [Builtin.max_, List.foldlM_cons, List.foldlM_nil]
theorem mxv_max (x y : Int) : mxv x y = max x y := by unfold mxv; omega
attribute [local go_sem] max2_mxv max_mxv

set_option maxRecDepth 100000 in
set_option maxHeartbeats 8000000 in
theorem more_walk (a0 a1 a2 a3 : Int) (d : Nat) (v : Value) (N : Int) (w0 : (Lit.int .i64 a0).wf = true) (w1 : (Lit.int .i64 a1).wf = true) (w2 : (Lit.int .u8 a2).wf = true) (w3 : (Lit.int .u8 a3).wf = true) (w : World) (hv : ArrN w d v N) :
    Calls Try.prog 4 #[.int .i64 a0, .int .i64 a1, .int .u8 a2, .int .u8 a3, v] w (Works w) := by
  have b0 := bounds_i64 w0
  have b1 := bounds_i64 w1
  have b2 := bounds_u8 w2
  have b3 := bounds_u8 w3
  obtain ⟨n, rfl⟩ := Int.eq_ofNat_of_zero_le b3.1
  have hn : n ≤ 255 := by omega
  obtain ⟨sA, sn, sc, A, m, c, rfl⟩ := hv.form
  generalize hx : Value.slice sA sn sc = x at hv ⊢
  generalize hy : Value.slice A m c = y at hv ⊢
  have hb := Lib.hid ((Below.refl w.heap.size w).alloc (Nat.le_refl _) (Obj.cells #[x, y] 38))
  have HV := Lib.hid hv
  have HA := Lib.hid (hv.below hb.out)
  have HQ := Lib.hid (blk_new w (Obj.cells #[x, y] 38))
  have HX := Lib.hid hx
  have HY := Lib.hid hy
  clear hv w0 w1 w2 w3 b3 hx hy
  by_cases big : 4611686018427387904 < a0 ∨ 4611686018427387904 < a1
  · go_enter Try.func4, Try.ntmps4
    by_cases b4 : 4611686018427387904 < a0
    · go_wp2_with fail
      refine (works_any _).mono ?_
      rintro e w3 ⟨rfl, hb3⟩
      have hb4 := Lib.hid (below_then hb.out hb.out.size hb3)
      clear hb3
      go_wp2
      go_ret
      exact ⟨rfl, hb4.out⟩
    · have b5 : 4611686018427387904 < a1 := by omega
      clear big
      go_wp2_with fail
      refine (works_any _).mono ?_
      rintro e w3 ⟨rfl, hb3⟩
      have hb4 := Lib.hid (below_then hb.out hb.out.size hb3)
      clear hb3
      go_wp2
      go_ret
      exact ⟨rfl, hb4.out⟩
  · have h0 : a0 ≤ 4611686018427387904 := by omega
    have h1 : a1 ≤ 4611686018427387904 := by omega
    clear big
    go_enter Try.func4, Try.ntmps4
    go_wp2_with fail
    refine (light_any _ _ _ _ HA.out).mono ?_
    rintro e w2 ⟨r, rfl, hb2⟩
    have HB2 := Lib.hid (below_then hb.out hb.out.size hb2)
    have HQ2 := Lib.hid (blk_below HQ.out hb2 (blk_lt HQ.out))
    clear hb2
    cases r
    · go_wp2_with fail
      refine (works_any _).mono ?_
      rintro e w3 ⟨rfl, hb3⟩
      have hb4 := Lib.hid (below_then HB2.out HB2.out.size hb3)
      clear hb3
      go_wp2
      go_ret
      exact ⟨rfl, hb4.out⟩
    · have z0 : 0 ≤ mxv a0 0 := by rw [mxv_max]; omega
      have z1 : 0 ≤ mxv a1 0 := by rw [mxv_max]; omega
      have z2 : mxv a0 0 ≤ 4611686018427387904 := by rw [mxv_max]; omega
      have z3 : mxv a1 0 ≤ 4611686018427387904 := by rw [mxv_max]; omega
      have z4 := Lib.hid (mxv_max a0 0)
      have z5 := Lib.hid (mxv_max a1 0)
      go_wp2_with fail
      refine (new_at a0 a1 _ (by omega) (by omega)).mono ?_
      rintro e w3 ⟨g1, rfl, hg1, hgs1, hb3⟩
      have HB3 := Lib.hid (below_then HB2.out HB2.out.size hb3)
      have HQ3 := Lib.hid (blk_below HQ2.out hb3 (blk_lt HQ2.out))
      have HG1 := Lib.hid hg1
      have hl3 : w.heap.size < g1 := Nat.lt_of_lt_of_le (blk_lt HQ2.out) hgs1
      have hl4 := blk_lt hg1
      clear hg1 hb3 HB2 HQ2 hgs1
      go_wp2_with fail
      refine (new_at _ _ _ ?_ ?_).mono ?_
      · omega
      · omega
      rintro e w4 ⟨g2, rfl, hg2, hgs2, hb4⟩
      obtain ⟨F, hF⟩ : ∃ F : Int, max a0 0 = F := ⟨_, rfl⟩
      obtain ⟨C, hC⟩ : ∃ C : Int, max a1 0 = C := ⟨_, rfl⟩
      obtain ⟨F2, C2, hFF, hCC, hF2, hg2'⟩ : ∃ F2 C2 : Int, F ≤ F2 ∧ C ≤ C2 ∧ F2 ≤ 5000000000000000000 ∧ w4.heap[g2]? = some (mcell F2 0 C2) := ⟨_, _, by have := z4.out; omega, by have := z5.out; omega, by omega, hg2⟩
      have hM : MW w g1 g2 (F - min (((0 : Nat) : Int)) F) (min (((0 : Nat) : Int)) F) C (F2 - min (((0 : Nat) : Int)) F2) (min (((0 : Nat) : Int)) F2) C2 d x y N w4 := by
        have hb5 := below_then HB3.out HB3.out.size hb4
        refine ⟨?_, ?_, blk_below HQ3.out hb4 (blk_lt HQ3.out), HV.out.below hb5, hb5⟩
        · rw [show min (((0 : Nat) : Int)) F = 0 by omega, Int.sub_zero, ← hF, ← hC]; exact blk_below HG1.out hb4 hl4
        · rw [show min (((0 : Nat) : Int)) F2 = 0 by omega, Int.sub_zero]; exact hg2'
      have HM := Lib.hid hM
      have hne : g1 ≠ g2 := by omega
      have hw2 : w.heap.size < g2 := by omega
      have hF0 : 0 ≤ F := by omega
      clear hg2 hgs2 hb4 HB3 HQ3 HG1 hF hC hg2' hM hl4
      go_wp2_with fail
      go_loopw [13] (fun i wr => ∃ k : Nat, k ≤ n ∧ i = .int .i64 k ∧ MW w g1 g2 (F - min (k : Int) F) (min (k : Int) F) C (F2 - min (k : Int) F2) (min (k : Int) F2) C2 d x y N wr) (fun i _ => n - (intOf i).toNat)
      case atStart => exact ⟨0, Nat.zero_le _, rfl, HM.out⟩
      case round =>
        obtain ⟨k, hk, rfl, hM⟩ := hrel
        have HK := Lib.hid hM
        clear hM HM
        by_cases hlt : k < n
        · by_cases hkF : (k : Int) < F
          · go_wp2_with fail
            refine (step_yes g1 _ _ C _ HK.out.m1 (by omega) (by omega) (by omega) (by omega)).mono ?_
            rintro e w5 ⟨rfl, hg5, ho5⟩
            have HK5 := Lib.hid (two_step HK.out hne hl3 HV.out hg5 ho5)
            clear hg5 ho5
            go_wp2_with fail
            refine (step_yes g2 _ _ C2 _ HK5.out.m2 (by omega) (by omega) (by omega) (by omega)).mono ?_
            rintro e w6 ⟨rfl, hg6, ho6⟩
            have HK6 := Lib.hid (two_step2 HK5.out hne hw2 HV.out hg6 ho6)
            clear hg6 ho6
            go_wp2
            go_roundw
            case rel =>
              refine ⟨k + 1, by omega, by go_num, ?_⟩
              have e1 : min (((k + 1 : Nat) : Int)) F = min (k : Int) F + 1 := by omega
              have e2 : min (((k + 1 : Nat) : Int)) F2 = min (k : Int) F2 + 1 := by omega
              rw [e1, e2, show F - (min (k : Int) F + 1) = F - min (k : Int) F - 1 by omega, show F2 - (min (k : Int) F2 + 1) = F2 - min (k : Int) F2 - 1 by omega]
              exact HK6.out
            case measure => simp [intOf]; omega
          · by_cases hkF2 : (k : Int) < F2
            · go_wp2_with fail
              refine (step_no g1 _ _ C _ HK.out.m1 (by omega)).mono ?_
              rintro e w5 ⟨rfl, rfl⟩
              go_wp2_with fail
              refine (step_yes g2 _ _ C2 _ HK.out.m2 (by omega) (by omega) (by omega) (by omega)).mono ?_
              rintro e w6 ⟨rfl, hg6, ho6⟩
              have HK6 := Lib.hid (two_step2 HK.out hne hw2 HV.out hg6 ho6)
              clear hg6 ho6
              go_wp2
              go_roundw
              case rel =>
                refine ⟨k + 1, by omega, by go_num, ?_⟩
                have e1 : min (((k + 1 : Nat) : Int)) F = min (k : Int) F := by omega
                have e2 : min (((k + 1 : Nat) : Int)) F2 = min (k : Int) F2 + 1 := by omega
                rw [e1, e2, show F2 - (min (k : Int) F2 + 1) = F2 - min (k : Int) F2 - 1 by omega]
                exact HK6.out
              case measure => simp [intOf]; omega
            · go_wp2_with fail
              refine (step_no g1 _ _ C _ HK.out.m1 (by omega)).mono ?_
              rintro e w5 ⟨rfl, rfl⟩
              go_wp2_with fail
              refine (step_no g2 _ _ C2 _ HK.out.m2 (by omega)).mono ?_
              rintro e w6 ⟨rfl, rfl⟩
              go_wp2
              go_roundw
              case rel =>
                refine ⟨k + 1, by omega, by go_num, ?_⟩
                have e1 : min (((k + 1 : Nat) : Int)) F = min (k : Int) F := by omega
                have e2 : min (((k + 1 : Nat) : Int)) F2 = min (k : Int) F2 := by omega
                rw [e1, e2]
                exact HK.out
              case measure => simp [intOf]; omega
        · obtain ⟨r1, hr1⟩ : ∃ r : Int, (if N > C then 12 else 0) = r := ⟨_, rfl⟩
          obtain ⟨r2, hr2⟩ : ∃ r : Int, (if N > C2 then 12 else 0) = r := ⟨_, rfl⟩
          have C1 := Lib.hid (fun w' h => by have := mw_hold1 (w0 := w) (g1 := g1) (g2 := g2) (l1 := F - min (k : Int) F) (u1 := min (k : Int) F) (c1 := C) (l2 := F2 - min (k : Int) F2) (u2 := min (k : Int) F2) (c2 := C2) (d := d) (x := x) (y := y) (N := N) w' h; rw [hr1] at this; exact this)
          have C2' := Lib.hid (fun w' h => by have := mw_hold2 (w0 := w) (g1 := g1) (g2 := g2) (l1 := F - min (k : Int) F) (u1 := min (k : Int) F) (c1 := C) (l2 := F2 - min (k : Int) F2) (u2 := min (k : Int) F2) (c2 := C2) (d := d) (x := x) (y := y) (N := N) w' h; rw [hr2] at this; exact this)
          have hrr : (r1 = 0 ∧ r2 = 0) ∨ (r1 = 12 ∧ r2 = 0) ∨ (r1 = 12 ∧ r2 = 12) := by
            rw [← hr1, ← hr2]
            split <;> split <;> omega
          have q0 := blk_cell HK.out.box 0
          have q1 := blk_cell HK.out.box 1
          have HKD := Lib.hid (HK.out.below (w' := wr.drew) ((Below.refl _ _).drew))
          clear hr1 hr2
          have e0 : ∀ (w' : World), Hid (MW w g1 g2 (F - min (k : Int) F) (min (k : Int) F) C (F2 - min (k : Int) F2) (min (k : Int) F2) C2 d x y N w') → w'.cell? ⟨w.heap.size, 0, none⟩ = some x ∧ w'.cell? ⟨w.heap.size, 1, none⟩ = some y := fun _ h => ⟨blk_cell h.out.box 0, blk_cell h.out.box 1⟩
          have E0 := Lib.hid e0
          clear e0
          rcases hrr with ⟨rfl, rfl⟩ | ⟨rfl, rfl⟩ | ⟨rfl, rfl⟩
          all_goals
            go_wp2
            go_region_held3 (fun w' => w'.cell? ⟨w.heap.size, 0, none⟩ = some x ∧ w'.cell? ⟨w.heap.size, 1, none⟩ = some y)
              (first | go_keep | exact E0.out _ H5 | exact E0.out _ H6)
              (first | (go_at_call 13; (with_reducible refine (C1.out _ HKD.out).mono ?_); rintro e w5 ⟨rfl, H5⟩) | (go_at_call 13; (with_reducible refine (C2'.out _ HKD.out).mono ?_); rintro e w5 ⟨rfl, H5⟩) | (go_at_call 13; (with_reducible refine (C1.out _ H5.out).mono ?_); rintro e w6 ⟨rfl, H6⟩) | (go_at_call 13; (with_reducible refine (C2'.out _ H5.out).mono ?_); rintro e w6 ⟨rfl, H6⟩))
            all_goals
              go_wp2_with fail
              refine (works_any _).mono ?_
              rintro e w7 ⟨rfl, hb7⟩
              have hb8 := Lib.hid (below_then H6.out.bel H6.out.bel.size hb7)
              clear hb7
              go_wp2
              go_ret
              exact ⟨rfl, hb8.out⟩
end Go.Proofs.Ytmalhpadnnlfjaa
