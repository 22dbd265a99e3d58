/- The walk of MeterSteps: for every fuel, number of cells and of steps the law returns true. Conditions: the numbers are of their kinds. -/
import Derived.Test.YtmalhpadnnlfjaaMe
namespace Go.Proofs.Ytmalhpadnnlfjaa
open Go.RowKit

def RefNew (a b : Int) (w : World) (e : Ending) (w' : World) : Prop := e = .returned (.agg #[.int .i64 0, .int .i64 (max a 0), .int .i64 (max b 0)]) ∧ Below w.heap.size w w'
theorem rnew_any (a b : Int) (w : World) : Calls Try.prog 7 #[.int .i64 a, .int .i64 b] w (RefNew a b w) := by
  by_cases h1 : a < 0 <;> by_cases h2 : b < 0
  all_goals
    go_enter Try.func7, Try.ntmps7
    go_wp2
    refine bodyPost_ret (v := .agg #[.int .i64 0, .int .i64 (max a 0), .int .i64 (max b 0)]) ?_ rfl ⟨rfl, (Below.refl _ _).alloc (Nat.le_refl _) _⟩
    simp [results, Try.results7, go_sem]
    try omega

def RefStep (u m h : Int) (w : World) (e : Ending) (w' : World) : Prop :=
  e = .returned (.tuple #[.agg #[.int .i64 (if u ≥ m then u else u + 1), .int .i64 m, .int .i64 h], .int .i64 (if u ≥ m then 11 else 0)]) ∧ Below w.heap.size w w'
theorem rstep_any (u m h : Int) (w : World) (h0 : 0 ≤ u) (hm : m ≤ 9223372036854775807) : Calls Try.prog 8 #[.agg #[.int .i64 u, .int .i64 m, .int .i64 h]] w (RefStep u m h w) := by
  by_cases h1 : m ≤ u
  · go_enter Try.func8, Try.ntmps8
    go_wp2
    refine bodyPost_ret (v := .tuple #[.agg #[.int .i64 u, .int .i64 m, .int .i64 h], .int .i64 11]) ?_ rfl ⟨by simp [h1], ?_⟩
    · simp [results, Try.results8, go_sem]
    · exact ((Below.refl _ _).alloc (Nat.le_refl _) _).alloc (by simp) _
  · have h2 : u < m := by omega
    go_enter Try.func8, Try.ntmps8
    go_wp2
    refine bodyPost_ret (v := .tuple #[.agg #[.int .i64 (u + 1), .int .i64 m, .int .i64 h], .int .i64 0]) ?_ rfl ⟨by rw [if_neg (by omega), if_neg (by omega)], ?_⟩
    · simp [results, Try.results8, go_sem]
    · exact ((Below.refl _ _).alloc (Nat.le_refl _) _).alloc (by simp) _

set_option maxRecDepth 100000 in
set_option maxHeartbeats 4000000 in
theorem steps_walk (a0 : Int) (a1 : Int) (a2 : Int) (w0 : (Lit.int .i64 a0).wf = true) (w1 : (Lit.int .i64 a1).wf = true) (w2 : (Lit.int .u8 a2).wf = true) (w : World) :
    Calls Try.prog 3 #[.int .i64 a0, .int .i64 a1, .int .u8 a2] w (Works w) := by
  have b0 := bounds_i64 w0
  have b1 := bounds_i64 w1
  have b2 := bounds_u8 w2
  obtain ⟨n, rfl⟩ := Int.eq_ofNat_of_zero_le b2.1
  have hn : n ≤ 255 := by omega
  obtain ⟨F, hF⟩ : ∃ F : Int, max a0 0 = F := ⟨_, rfl⟩
  obtain ⟨C, hC⟩ : ∃ C : Int, max a1 0 = C := ⟨_, rfl⟩
  have hF0 : 0 ≤ F := by omega
  have hF1 : F ≤ 9223372036854775807 := by omega
  have HF := Lib.hid hF
  have HC := Lib.hid hC
  clear w0 w1 w2 hF b2 hC
  go_enter Try.func3, Try.ntmps3
  go_wp2_with fail
  refine (new_at a0 a1 _ (by omega) (by omega)).mono ?_
  rintro e w1 ⟨g, rfl, hg1, hgs, hb1⟩
  have HG1 := Lib.hid (show w1.heap[g]? = some (mcell F 0 C) from by rw [← HF.out, ← HC.out]; exact hg1)
  have HB1 := Lib.hid hb1
  have hgl := blk_lt hg1
  clear hg1 hb1
  go_wp2_with fail
  refine (rnew_any a0 a1 _).mono ?_
  rintro e w2 ⟨rfl, hb2⟩
  have HG2 := Lib.hid (blk_below HG1.out hb2 hgl)
  have HB2 := Lib.hid (below_then HB1.out HB1.out.size hb2)
  have hgl2 := blk_lt HG2.out
  rw [HF.out, HC.out]
  clear hb2 HG1 hgl
  go_wp2_with fail
  have hr := Lib.hid (blk_new w2 (Obj.cells #[Value.int IntKind.i64 0, Value.int IntKind.i64 F, Value.int IntKind.i64 C] 25))
  have hg3 := Lib.hid (blk_alloc HG2.out (Obj.cells #[Value.int IntKind.i64 0, Value.int IntKind.i64 F, Value.int IntKind.i64 C] 25))
  have hb3 := Lib.hid (HB2.out.alloc HB2.out.size (Obj.cells #[Value.int IntKind.i64 0, Value.int IntKind.i64 F, Value.int IntKind.i64 C] 25))
  have hRw : w.heap.size ≤ w2.heap.size := HB2.out.size
  generalize w2.alloc (Obj.cells #[Value.int IntKind.i64 0, Value.int IntKind.i64 F, Value.int IntKind.i64 C] 25) = w3 at hr hg3 hb3 ⊢
  generalize w2.heap.size = R at hr hgl2 hRw ⊢
  clear HG2 HB2 HB1
  go_loopw [9] (fun i wr => ∃ k : Nat, k ≤ n ∧ i = .int .i64 k ∧ wr.heap[g]? = some (mcell (F - min (k : Int) F) (min (k : Int) F) C) ∧ wr.heap[R]? = some (.cells #[.int .i64 (min (k : Int) F), .int .i64 F, .int .i64 C] 25 (0, 0)) ∧ Below w.heap.size w wr) (fun i _ => n - (intOf i).toNat)
  case atStart =>
    refine ⟨0, Nat.zero_le _, rfl, ?_, ?_, hb3.out⟩
    · rw [show min (((0 : Nat) : Int)) F = 0 by omega, Int.sub_zero]; exact hg3.out
    · rw [show min (((0 : Nat) : Int)) F = 0 by omega]; exact hr.out
  case round =>
    obtain ⟨k, hk, rfl, hg, hrr, hb⟩ := hrel
    have HG := Lib.hid hg
    have HR := Lib.hid hrr
    have HB := Lib.hid hb
    have q0 := blk_cell hrr 0
    have q1 := blk_cell hrr 1
    have q2 := blk_cell hrr 2
    have hgwr := blk_lt hg
    have hRwr := blk_lt hrr
    clear hg hrr hb hr hg3 hb3
    by_cases hlt : k < n
    · have hstep : ∃ t t' e : Int, min (k : Int) F = t ∧ min (((k + 1 : Nat)) : Int) F = t' ∧ 0 ≤ t ∧ t ≤ F ∧ (if t ≥ F then t else t + 1) = t' ∧ (if t ≥ F then (11 : Int) else 0) = e ∧ 0 ≤ t' ∧ t' ≤ F := by
        refine ⟨_, _, _, rfl, rfl, by omega, by omega, ?_, rfl, by omega, by omega⟩
        split <;> omega
      obtain ⟨t, t', er, e1, e2, ht0, htF, e3, e4, ht0', htF'⟩ := hstep
      rw [e1] at q0 HG HR
      have E2 := Lib.hid e2
      have E3 := Lib.hid e3
      have E4 := Lib.hid e4
      clear e1 e2 e3 e4
      go_wp2_with fail
      refine (rstep_any t F C _ ht0 hF1).mono ?_
      rintro e w4 ⟨rfl, hb4⟩
      rw [E3.out, E4.out]
      have HG4 := Lib.hid (blk_below HG.out hb4 hgwr)
      have HR4 := Lib.hid (blk_below HR.out hb4 hRwr)
      have HB4 := Lib.hid (below_then HB.out HB.out.size hb4)
      clear q0 q1 q2 hb4
      have r0 := blk_cell HR4.out 0
      have r1 := blk_cell HR4.out 1
      have r2 := blk_cell HR4.out 2
      have f0 := blk_frozen HR4.out 0
      have f1 := blk_frozen HR4.out 1
      have f2 := blk_frozen HR4.out 2
      have hlt4 := blk_lt HR4.out
      go_wp2_with fail
      have HR5 := Lib.hid (show _ = some (Obj.cells #[.int .i64 t', .int .i64 F, .int .i64 C] 25 (0, 0)) from by simpa using blk_alloc (blk_set (blk_set (blk_set HR4.out 0 (.int .i64 t')) 1 (.int .i64 F)) 2 (.int .i64 C)) (Obj.cells #[Value.int IntKind.i64 t', Value.int IntKind.i64 F, Value.int IntKind.i64 C] 25))
      have HG5 := Lib.hid (blk_alloc (blk_far (blk_far (blk_far HG4.out (p := ⟨R, 0, none⟩) (by simp; omega) (.int .i64 t')) (p := ⟨R, 1, none⟩) (by simp; omega) (.int .i64 F)) (p := ⟨R, 2, none⟩) (by simp; omega) (.int .i64 C)) (Obj.cells #[Value.int IntKind.i64 t', Value.int IntKind.i64 F, Value.int IntKind.i64 C] 25))
      have HB5 := Lib.hid ((((HB4.out.setCell (p := ⟨R, 0, none⟩) hRw (.int .i64 t')).setCell (p := ⟨R, 1, none⟩) hRw (.int .i64 F)).setCell (p := ⟨R, 2, none⟩) hRw (.int .i64 C)).alloc (by have := HB4.out.size; simpa [World.setCell] using this) (Obj.cells #[Value.int IntKind.i64 t', Value.int IntKind.i64 F, Value.int IntKind.i64 C] 25))
      generalize (((w4.setCell ⟨R, 0, none⟩ (.int .i64 t')).setCell ⟨R, 1, none⟩ (.int .i64 F)).setCell ⟨R, 2, none⟩ (.int .i64 C)).alloc (Obj.cells #[Value.int IntKind.i64 t', Value.int IntKind.i64 F, Value.int IntKind.i64 C] 25) = w5 at HR5 HG5 HB5 ⊢
      clear r0 r1 r2 f0 f1 f2 HG4 HR4 HB4
      by_cases htF2 : t < F
      · have er0 : er = 0 := by have := E4.out; rw [if_neg (by omega)] at this; omega
        have tt : t' = t + 1 := by have := E3.out; rw [if_neg (by omega)] at this; omega
        subst er0 tt
        refine (step_yes g (F - t) t C _ HG5.out (by omega) (by omega) (by omega) (by omega)).mono ?_
        rintro e w6 ⟨rfl, hg6, ho⟩
        have HR6 := Lib.hid (blk_grown HR5.out ho.grown (by simp; omega))
        have HB6 := Lib.hid (only_below HB5.out hgs ho)
        have HG6 := Lib.hid hg6
        clear hg6 ho HG5 HR5 HB5
        go_wp2_with fail
        refine (used_any g (F - t - 1) (t + 1) C _ HG6.out).mono ?_
        rintro e w7 ⟨rfl, n7, rfl⟩
        have HR7 := Lib.hid (blk_drewN HR6.out n7)
        have HG7 := Lib.hid (blk_drewN HG6.out n7)
        have HB7 := Lib.hid (below_drewN HB6.out n7)
        generalize w6.drewN n7 = w7 at HR7 HG7 HB7 ⊢
        have r0 := blk_cell HR7.out 0
        have r1 := blk_cell HR7.out 1
        clear HG6 HR6 HB6
        go_wp2
        go_roundw
        case rel =>
          refine ⟨k + 1, by omega, by go_num, ?_, ?_, HB7.out⟩
          · rw [E2.out, show F - (t + 1) = F - t - 1 by omega]; exact HG7.out
          · rw [E2.out]; exact HR7.out
        case measure => simp [intOf]; omega
      · have er0 : er = 11 := by have := E4.out; rw [if_pos (by omega)] at this; omega
        have tt : t' = t := by have := E3.out; rw [if_pos (by omega)] at this; omega
        subst er0 tt
        refine (step_no g (F - t') t' C _ HG5.out (by omega)).mono ?_
        rintro e w6 ⟨rfl, rfl⟩
        go_wp2_with fail
        refine (used_any g (F - t') t' C _ HG5.out).mono ?_
        rintro e w7 ⟨rfl, n7, rfl⟩
        have HR7 := Lib.hid (blk_drewN HR5.out n7)
        have HG7 := Lib.hid (blk_drewN HG5.out n7)
        have HB7 := Lib.hid (below_drewN HB5.out n7)
        generalize w5.drewN n7 = w7 at HR7 HG7 HB7 ⊢
        have r0 := blk_cell HR7.out 0
        have r1 := blk_cell HR7.out 1
        clear HG5 HR5 HB5
        go_wp2
        go_roundw
        case rel =>
          refine ⟨k + 1, by omega, by go_num, ?_, ?_, HB7.out⟩
          · rw [E2.out]; exact HG7.out
          · rw [E2.out]; exact HR7.out
        case measure => simp [intOf]; omega
    · obtain rfl : k = n := by omega
      clear q0 q1 q2
      go_wp2_with fail
      refine (works_any _).mono ?_
      rintro e w3 ⟨rfl, hb3⟩
      have hb4 := Lib.hid (below_then HB.out HB.out.size hb3)
      clear hb3
      go_wp2
      go_ret
      exact ⟨rfl, hb4.out⟩
end Go.Proofs.Ytmalhpadnnlfjaa
