/- The walk of MeterBound: for every fuel and number of steps the law returns true. Conditions: the numbers are of their kinds. -/
import Derived.Test.YtmalhpadnnlfjaaMe
namespace Go.Proofs.Ytmalhpadnnlfjaa
open Go.RowKit

theorem step_yes' (g : Nat) (l u c : Int) (w : World) (hg : w.heap[g]? = some (mcell l u c)) (hl : 1 ≤ l) (hl2 : l ≤ 9223372036854775807) (hu : 0 ≤ u) (hu2 : u + 1 ≤ 9223372036854775807) :
    Calls Try.prog 9 #[.pointer (some ⟨g, 0, none⟩)] w fun e w' => e = .returned (.int .i64 0) ∧ w'.heap[g]? = some (mcell (l - 1) (u + 1) c) ∧ Only g w w' := step_yes g l u c w hg hl hl2 hu hu2

set_option maxRecDepth 100000 in
set_option maxHeartbeats 2000000 in
theorem bound_walk (a0 : Int) (a1 : Int) (w0 : (Lit.int .i64 a0).wf = true) (w1 : (Lit.int .u8 a1).wf = true) (w : World) :
    Calls Try.prog 5 #[.int .i64 a0, .int .u8 a1] w (Works w) := by
  have b0 := bounds_i64 w0
  have b1 := bounds_u8 w1
  obtain ⟨n, rfl⟩ := Int.eq_ofNat_of_zero_le b1.1
  have hn : n ≤ 255 := by omega
  obtain ⟨F, hF⟩ : ∃ F : Int, max a0 0 = F := ⟨_, rfl⟩
  have hF0 : 0 ≤ F := by omega
  have hF1 : F ≤ 9223372036854775807 := by omega
  have HF := Lib.hid hF
  have hFa : a0 ≤ F := by omega
  clear w0 w1 hF b1
  go_enter Try.func5, Try.ntmps5
  go_wp2_with fail
  refine (new_at a0 0 _ (by omega) (by omega)).mono ?_
  rintro e w1 ⟨g, rfl, hg1, hgs, hb1⟩
  have HG1 := Lib.hid (show w1.heap[g]? = some (mcell F 0 0) from by rw [← HF.out]; exact hg1)
  have HB1 := Lib.hid hb1
  clear hg1 hb1
  go_wp2_with fail
  go_loopw [6, 7, 8] (fun tk ov i wr => ∃ k : Nat, k ≤ n ∧ i = .int .i64 k ∧ tk = .int .i64 (min (k : Int) F) ∧ ov = .bool (decide (F < k)) ∧ wr.heap[g]? = some (mcell (F - min (k : Int) F) (min (k : Int) F) 0) ∧ Below w.heap.size w wr) (fun _ _ i _ => n - (intOf i).toNat)
  case atStart =>
    refine ⟨0, Nat.zero_le _, rfl, ?_, ?_, ?_, HB1.out⟩
    · rw [show min (((0 : Nat) : Int)) F = 0 by omega]
    · rw [show decide (F < ((0 : Nat) : Int)) = false by simp; omega]
    · rw [show min (((0 : Nat) : Int)) F = 0 by omega, Int.sub_zero]; exact HG1.out
  case round =>
    obtain ⟨k, hk, rfl, rfl, rfl, hg, hb⟩ := hrel
    have HG := Lib.hid hg
    have HB := Lib.hid hb
    clear hg hb
    by_cases hlt : k < n
    · by_cases hkF : (k : Int) < F
      · have e1 : min (k : Int) F = k := by omega
        have e2 : decide (F < (k : Int)) = false := by simp; omega
        rw [e1] at HG
        rw [e1, e2]
        clear e1 e2
        go_wp2_with fail
        refine (step_yes g (F - k) k 0 _ HG.out (by omega) (by omega) (by omega) (by omega)).mono ?_
        rintro e w2 ⟨rfl, hg2, ho⟩
        have HB2 := Lib.hid (only_below HB.out hgs ho)
        have HG2 := Lib.hid hg2
        clear hg2 ho HB HG
        go_wp2
        go_roundw
        case rel =>
          refine ⟨k + 1, by omega, by go_num, ?_, ?_, ?_, HB2.out⟩
          · rw [show min (((k + 1 : Nat) : Int)) F = k + 1 by omega]
          · rw [show decide (F < ((k + 1 : Nat) : Int)) = false by simp; omega]
          · rw [show min (((k + 1 : Nat) : Int)) F = k + 1 by omega, show F - (k + 1) = F - k - 1 by omega]; exact HG2.out
        case measure => simp [intOf]; omega
      · have e1 : min (k : Int) F = F := by omega
        rw [e1] at HG
        rw [e1]
        clear e1
        have HK := Lib.hid hkF
        have hkF' : F ≤ k := by omega
        clear hkF
        go_wp2_with fail
        refine (step_no g (F - F) F 0 _ HG.out (by omega)).mono ?_
        rintro e w2 ⟨rfl, rfl⟩
        go_wp2
        go_roundw
        case rel =>
          refine ⟨k + 1, by omega, by go_num, ?_, ?_, ?_, HB.out⟩
          · rw [show min (((k + 1 : Nat) : Int)) F = F by omega]
          · rw [show decide (F < ((k + 1 : Nat) : Int)) = true by simp; omega]
          · rw [show min (((k + 1 : Nat) : Int)) F = F by omega]; exact HG.out
        case measure => simp [intOf]; omega
    · obtain rfl : k = n := by omega
      obtain ⟨t, ht⟩ : ∃ t : Int, min (k : Int) F = t := ⟨_, rfl⟩
      rw [ht] at HG
      rw [ht]
      have ht0 : 0 ≤ t := by omega
      have htF : t ≤ F := by omega
      have hta : t = 0 ∨ t ≤ a0 := by have := HF.out; omega
      have hov : decide (F < (k : Int)) = decide (t < (k : Int)) := by
        by_cases h : F < (k : Int)
        · rw [decide_eq_true h, decide_eq_true (show t < (k : Int) by omega)]
        · rw [decide_eq_false h, decide_eq_false (show ¬ t < (k : Int) by omega)]
      rw [hov]
      have HO := Lib.hid hov
      have HT := Lib.hid ht
      have htF' : 0 ≤ F - t := by omega
      clear hov ht
      go_wp2_with fail
      refine (used_any g (F - t) t 0 _ HG.out).mono ?_
      rintro e w2 ⟨rfl, n2, rfl⟩
      have HB2 := Lib.hid (below_drewN HB.out n2)
      rcases hta with hta | hta
      all_goals
        by_cases hlt2 : t < (k : Int)
        all_goals
          go_wp2_with fail
          all_goals
            refine (works_any _).mono ?_
            rintro e w3 ⟨rfl, hb3⟩
            have hb4 := Lib.hid (below_then HB2.out HB2.out.size hb3)
            clear hb3
            go_wp2
            go_ret
            exact ⟨rfl, hb4.out⟩
end Go.Proofs.Ytmalhpadnnlfjaa
