/- Contract of the reference's Lex of K. Conditions: none. -/
import Derived.Test.YtollglblkbjgjaaJf
import Derived.Test.YtollglblkbjgjaaHf
import Derived.Test.YtollglblkbjgjaaHk
namespace Go.Proofs.Ytollglblkbjgjaa
open Go.RowKit

set_option maxRecDepth 100000 in
set_option maxHeartbeats 16000000 in
theorem one26_any (s : ByteArray) (i : Nat) (w : World) (hs : s.size ≤ 1000000) (hi : i < s.size) : Calls Try.prog 26 #[.string s, .int .i64 (i : Int)] w (WordTo none s i w) := by
 have HB := Lib.hid ((((Below.refl _ w).alloc (Nat.le_refl _) (.cells #[.int .i64 0, .string ⟨#[]⟩, .slice none 0 0, .slice none 0 0, .int .i64 0] 43)).alloc (by simp) (.cells #[.int .i64 0, .int .i64 0, .int .i64 0] 28)).alloc (by simp; omega) (.cells #[.int .i64 2, .int .i64 (i : Int), .int .i64 0] 28))
 have HRES := Lib.hid (blk_alloc (blk_alloc (blk_new w (.cells #[.int .i64 0, .string ⟨#[]⟩, .slice none 0 0, .slice none 0 0, .int .i64 0] 43)) (.cells #[.int .i64 0, .int .i64 0, .int .i64 0] 28)) (.cells #[.int .i64 2, .int .i64 (i : Int), .int .i64 0] 28))
 have hfb := blk_alloc (blk_new (w.alloc (.cells #[.int .i64 0, .string ⟨#[]⟩, .slice none 0 0, .slice none 0 0, .int .i64 0] 43)) (.cells #[.int .i64 0, .int .i64 0, .int .i64 0] 28)) (.cells #[.int .i64 2, .int .i64 (i : Int), .int .i64 0] 28)
 rw [show (w.alloc (.cells #[.int .i64 0, .string ⟨#[]⟩, .slice none 0 0, .slice none 0 0, .int .i64 0] 43)).heap.size = w.heap.size + 1 by simp] at hfb
 have HFB := Lib.hid hfb
 have hbd := blk_new ((w.alloc (.cells #[.int .i64 0, .string ⟨#[]⟩, .slice none 0 0, .slice none 0 0, .int .i64 0] 43)).alloc (.cells #[.int .i64 0, .int .i64 0, .int .i64 0] 28)) (.cells #[.int .i64 2, .int .i64 (i : Int), .int .i64 0] 28)
 rw [show ((w.alloc (.cells #[.int .i64 0, .string ⟨#[]⟩, .slice none 0 0, .slice none 0 0, .int .i64 0] 43)).alloc (.cells #[.int .i64 0, .int .i64 0, .int .i64 0] 28)).heap.size = w.heap.size + 2 by simp] at hbd
 have HBD := Lib.hid hbd
 clear hfb hbd
 have hbg := bt_get s i hi
 have hj0 : (0 : Int) ≤ (i : Int) := by omega
 have hj1 : (i : Int) < (s.size : Int) := by omega
 go_enter Try.func26, Try.ntmps26
 go_wp2_with fail
 refine (sign_at s i _ hs (Nat.le_of_lt hi)).mono ?_
 rintro e w1 ⟨rfl, hb1⟩
 have HB1 := Lib.hid (below_then HB.out HB.out.size hb1)
 have HRES1 := Lib.hid (blk_below HRES.out hb1 (blk_lt HRES.out))
 have HFB1 := Lib.hid (blk_below HFB.out hb1 (blk_lt HFB.out))
 have HBD1 := Lib.hid (blk_below HBD.out hb1 (blk_lt HBD.out))
 clear hb1 HB HRES HFB HBD
 have hres1 := blk_lt HRES1.out
 have hfb1 := blk_lt HFB1.out
 have hb0 := HB1.out.size
 rcases sign_cases hi with hsc | ⟨sn, sk, hsc, hk1, hk4, hks, -⟩
 ·rw [hsc]
  clear hsc
  have r0 := blk_cell HRES1.out 0
  have rf0 := blk_frozen HRES1.out 0
  have r1 := blk_cell HRES1.out 1
  have rf1 := blk_frozen HRES1.out 1
  have r2 := blk_cell HRES1.out 2
  have rf2 := blk_frozen HRES1.out 2
  have r3 := blk_cell HRES1.out 3
  have rf3 := blk_frozen HRES1.out 3
  have r4 := blk_cell HRES1.out 4
  have rf4 := blk_frozen HRES1.out 4
  have g0 := blk_cell HFB1.out 0
  have gf0 := blk_frozen HFB1.out 0
  have g1 := blk_cell HFB1.out 1
  have gf1 := blk_frozen HFB1.out 1
  have g2 := blk_cell HFB1.out 2
  have gf2 := blk_frozen HFB1.out 2
  go_wp2_with fail
  obtain ⟨hr', hf'⟩ := eight_res HRES1.out HFB1.out (by omega) (.int .i64 0) (.string ⟨#[]⟩) (.slice none 0 0) (.slice none 0 0) (.int .i64 0) (.int .i64 3) (.int .i64 (i : Int)) (.int .i64 0)
  have hr := hr'
  have hf := hf'
  clear hr' hf'
  unfold eightSet fiveSet at hr hf
  have q0 := blk_cell hr 0
  have q1 := blk_cell hr 1
  have q2 := blk_cell hr 2
  have q3 := blk_cell hr 3
  have q4 := blk_cell hr 4
  have q5 := blk_cell hf 0
  have q6 := blk_cell hf 1
  have q7 := blk_cell hf 2
  refine bodyPost_ret (v := .tuple #[.agg #[.int .i64 0, .string ⟨#[]⟩, .slice none 0 0, .slice none 0 0, .int .i64 0], .int .i64 (i : Int), faultV (3) ((i : Int))]) (by simp [results, Try.results26, go_sem, faultV, q0, q1, q2, q3, q4, q5, q6, q7]) rfl ?_
  exact ⟨below_eight HB1.out (Nat.le_refl _) (by omega) (.int .i64 0) (.string ⟨#[]⟩) (.slice none 0 0) (.slice none 0 0) (.int .i64 0) (.int .i64 3) (.int .i64 (i : Int)) (.int .i64 0), _, 0, ⟨#[]⟩, 0, i, _, _, rfl, ⟨none, 0, 0, none, 0, 0, ⟨[], []⟩, rfl, lit_none _ _⟩, Nat.zero_le _, .inl (by decide), fun _ _ _ h => by cases h⟩
 ·rw [hsc]
  have bk : ((sk : Int) == 0) = false := beq_eq_false_iff_ne.2 (by omega)
  clear hsc
  go_wp2_with fail
  have HBG := Lib.hid (begins_any s ⟨#[95]⟩ i w1 hs (Nat.le_of_lt hi) (by decide))
  cases hbn : beginsM s i ⟨#[95]⟩ with
  | true =>
   rw [hbn] at HBG
   refine HBG.out.mono ?_
   rintro e wq ⟨rfl, hww⟩
   obtain rfl : w1 = wq := hww.symm
   go_wp2_with fail
   refine (strand_any s ⟨#[95]⟩ (by decide) i w1 hs (Nat.le_of_lt hi) hbn).mono ?_
   rintro e w2 ⟨hb2, v, to, bad, rfl, htv, hbad, hst⟩
   obtain ⟨Az, nz, cz, Bz, mz, dz, tz, rfl, hlz⟩ := htv
   have HLZ := Lib.hid hlz
   have HB2 := Lib.hid (below_then HB1.out HB1.out.size hb2)
   have HRES2 := Lib.hid (blk_below HRES1.out hb2 (blk_lt HRES1.out))
   have HFB2 := Lib.hid (blk_below HFB1.out hb2 (blk_lt HFB1.out))
   have HBD2 := Lib.hid (blk_below HBD1.out hb2 (blk_lt HBD1.out))
   have hb12 := hb2.size
   clear hb2 hlz hbn hst HRES1 HFB1 HB1 HBD1 hb0
   have hb0 := HB2.out.size
   have hres2 := blk_lt HRES2.out
   have hfb2 := blk_lt HFB2.out
   have r0 := blk_cell HRES2.out 0
   have rf0 := blk_frozen HRES2.out 0
   have r1 := blk_cell HRES2.out 1
   have rf1 := blk_frozen HRES2.out 1
   have r2 := blk_cell HRES2.out 2
   have rf2 := blk_frozen HRES2.out 2
   have r3 := blk_cell HRES2.out 3
   have rf3 := blk_frozen HRES2.out 3
   have r4 := blk_cell HRES2.out 4
   have rf4 := blk_frozen HRES2.out 4
   have g0 := blk_cell HFB2.out 0
   have gf0 := blk_frozen HFB2.out 0
   have g1 := blk_cell HFB2.out 1
   have gf1 := blk_frozen HFB2.out 1
   have g2 := blk_cell HFB2.out 2
   have gf2 := blk_frozen HFB2.out 2
   rcases hbad with hbad | ⟨rfl, hto, hto2⟩
   ·have d1 : decide ((0 : Int) ≤ bad) = true := decide_eq_true hbad
    go_wp2_with fail
    obtain ⟨hr', hf'⟩ := eight_res HRES2.out HFB2.out (by omega) (.int .i64 1) (.string ⟨#[]⟩) (.slice Az nz cz) (.slice Bz mz dz) (.int .i64 (i : Int)) (.int .i64 2) (.int .i64 bad) (.int .i64 0)
    have hr := blk_alloc (hr') (.cells #[.int .i64 1, .string ⟨#[]⟩, .slice Az nz cz, .slice Bz mz dz, .int .i64 (i : Int)] 43)
    have hf := blk_alloc (hf') (.cells #[.int .i64 1, .string ⟨#[]⟩, .slice Az nz cz, .slice Bz mz dz, .int .i64 (i : Int)] 43)
    clear hr' hf'
    unfold eightSet fiveSet at hr hf
    have q0 := blk_cell hr 0
    have q1 := blk_cell hr 1
    have q2 := blk_cell hr 2
    have q3 := blk_cell hr 3
    have q4 := blk_cell hr 4
    have q5 := blk_cell hf 0
    have q6 := blk_cell hf 1
    have q7 := blk_cell hf 2
    refine bodyPost_ret (v := .tuple #[.agg #[.int .i64 1, .string ⟨#[]⟩, .slice Az nz cz, .slice Bz mz dz, .int .i64 (i : Int)], .int .i64 (to : Int), faultV (2) (bad)]) (by simp [results, Try.results26, go_sem, faultV, q0, q1, q2, q3, q4, q5, q6, q7]) rfl ?_
    exact ⟨(below_eight HB2.out (Nat.le_refl _) (by omega) (.int .i64 1) (.string ⟨#[]⟩) (.slice Az nz cz) (.slice Bz mz dz) (.int .i64 (i : Int)) (.int .i64 2) (.int .i64 bad) (.int .i64 0)).alloc (by simpa [World.setCell, eightSet, fiveSet] using hb0) _, _, 1, ⟨#[]⟩, (i), to, _, _, rfl, ⟨_, _, _, _, _, _, _, rfl, ((HLZ.out.eight (fun b (hb : w1.heap.size ≤ b) => by omega) (fun b (hb : w1.heap.size ≤ b) => by omega) _ _ _ _ _ _ _ _).below ((Below.refl _ _).alloc (Nat.le_refl _) _)).from (fun b (hb : w1.heap.size ≤ b) => by omega)⟩, Nat.zero_le _, .inl (by decide), fun _ _ _ h => by cases h⟩
   ·go_wp2_with fail
    obtain ⟨hr', hf'⟩ := eight_res HRES2.out HFB2.out (by omega) (.int .i64 1) (.string ⟨#[]⟩) (.slice Az nz cz) (.slice Bz mz dz) (.int .i64 (i : Int)) (.int .i64 0) (.int .i64 0) (.int .i64 0)
    have hr := blk_alloc (hr') (.cells #[.int .i64 1, .string ⟨#[]⟩, .slice Az nz cz, .slice Bz mz dz, .int .i64 (i : Int)] 43)
    have hf := blk_alloc (hf') (.cells #[.int .i64 1, .string ⟨#[]⟩, .slice Az nz cz, .slice Bz mz dz, .int .i64 (i : Int)] 43)
    clear hr' hf'
    unfold eightSet fiveSet at hr hf
    have q0 := blk_cell hr 0
    have q1 := blk_cell hr 1
    have q2 := blk_cell hr 2
    have q3 := blk_cell hr 3
    have q4 := blk_cell hr 4
    have q5 := blk_cell hf 0
    have q6 := blk_cell hf 1
    have q7 := blk_cell hf 2
    refine bodyPost_ret (v := .tuple #[.agg #[.int .i64 1, .string ⟨#[]⟩, .slice Az nz cz, .slice Bz mz dz, .int .i64 (i : Int)], .int .i64 (to : Int), faultV (0) (0)]) (by simp [results, Try.results26, go_sem, faultV, q0, q1, q2, q3, q4, q5, q6, q7]) rfl ?_
    exact ⟨(below_eight HB2.out (Nat.le_refl _) (by omega) (.int .i64 1) (.string ⟨#[]⟩) (.slice Az nz cz) (.slice Bz mz dz) (.int .i64 (i : Int)) (.int .i64 0) (.int .i64 0) (.int .i64 0)).alloc (by simpa [World.setCell, eightSet, fiveSet] using hb0) _, _, 1, ⟨#[]⟩, (i), to, _, _, rfl, ⟨_, _, _, _, _, _, _, rfl, ((HLZ.out.eight (fun b (hb : w1.heap.size ≤ b) => by omega) (fun b (hb : w1.heap.size ≤ b) => by omega) _ _ _ _ _ _ _ _).below ((Below.refl _ _).alloc (Nat.le_refl _) _)).from (fun b (hb : w1.heap.size ≤ b) => by omega)⟩, Nat.zero_le _, .inr ⟨rfl, hto, hto2⟩, fun _ _ _ h => by cases h⟩
  | false =>
   rw [hbn] at HBG
   refine HBG.out.mono ?_
   rintro e wq ⟨rfl, hww⟩
   obtain rfl : w1 = wq := hww.symm
   clear hbn HBG
   cases h39 : (bt s i == 39) with
   | true =>
    have r0 := blk_cell HRES1.out 0
    have rf0 := blk_frozen HRES1.out 0
    have r1 := blk_cell HRES1.out 1
    have rf1 := blk_frozen HRES1.out 1
    have r2 := blk_cell HRES1.out 2
    have rf2 := blk_frozen HRES1.out 2
    have r3 := blk_cell HRES1.out 3
    have rf3 := blk_frozen HRES1.out 3
    have r4 := blk_cell HRES1.out 4
    have rf4 := blk_frozen HRES1.out 4
    have g0 := blk_cell HFB1.out 0
    have gf0 := blk_frozen HFB1.out 0
    have g1 := blk_cell HFB1.out 1
    have gf1 := blk_frozen HFB1.out 1
    have g2 := blk_cell HFB1.out 2
    have gf2 := blk_frozen HFB1.out 2
    go_wp2_with fail
    refine (quoted_any s i w1 hs hi).mono ?_
    rintro e w2 ⟨hb2, v, qk, qx, qa, to, er, at_, rfl, htv, hxs, hbad, -⟩
    obtain ⟨Az, nz, cz, Bz, mz, dz, tz, rfl, hlz⟩ := htv
    have HLZ := Lib.hid hlz
    have HB2 := Lib.hid (below_then HB1.out HB1.out.size hb2)
    have HRES2 := Lib.hid (blk_below HRES1.out hb2 (blk_lt HRES1.out))
    have HFB2 := Lib.hid (blk_below HFB1.out hb2 (blk_lt HFB1.out))
    have HBD2 := Lib.hid (blk_below HBD1.out hb2 (blk_lt HBD1.out))
    have HBAD := Lib.hid hbad
    have hb12 := hb2.size
    clear hb2 hlz hbad HRES1 HFB1 HB1 HBD1 hb0 r0 rf0 r1 rf1 r2 rf2 r3 rf3 r4 rf4 g0 gf0 g1 gf1 g2 gf2
    have hb0 := HB2.out.size
    have hres2 := blk_lt HRES2.out
    have hfb2 := blk_lt HFB2.out
    unfold faultV
    have r0 := blk_cell HRES2.out 0
    have rf0 := blk_frozen HRES2.out 0
    have r1 := blk_cell HRES2.out 1
    have rf1 := blk_frozen HRES2.out 1
    have r2 := blk_cell HRES2.out 2
    have rf2 := blk_frozen HRES2.out 2
    have r3 := blk_cell HRES2.out 3
    have rf3 := blk_frozen HRES2.out 3
    have r4 := blk_cell HRES2.out 4
    have rf4 := blk_frozen HRES2.out 4
    have g0 := blk_cell HFB2.out 0
    have gf0 := blk_frozen HFB2.out 0
    have g1 := blk_cell HFB2.out 1
    have gf1 := blk_frozen HFB2.out 1
    have g2 := blk_cell HFB2.out 2
    have gf2 := blk_frozen HFB2.out 2
    go_wp2_with fail
    obtain ⟨hr', hf'⟩ := eight_res HRES2.out HFB2.out (by omega) (.int .i64 qk) (.string qx) (.slice Az nz cz) (.slice Bz mz dz) (.int .i64 (qa : Int)) (.int .i64 er) (.int .i64 at_) (.int .i64 0)
    have hr := hr'
    have hf := hf'
    clear hr' hf'
    unfold eightSet fiveSet at hr hf
    have q0 := blk_cell hr 0
    have q1 := blk_cell hr 1
    have q2 := blk_cell hr 2
    have q3 := blk_cell hr 3
    have q4 := blk_cell hr 4
    have q5 := blk_cell hf 0
    have q6 := blk_cell hf 1
    have q7 := blk_cell hf 2
    refine bodyPost_ret (v := .tuple #[.agg #[.int .i64 qk, .string qx, .slice Az nz cz, .slice Bz mz dz, .int .i64 (qa : Int)], .int .i64 (to : Int), faultV (er) (at_)]) (by simp [results, Try.results26, go_sem, faultV, q0, q1, q2, q3, q4, q5, q6, q7]) rfl ?_
    exact ⟨below_eight HB2.out (Nat.le_refl _) (by omega) (.int .i64 qk) (.string qx) (.slice Az nz cz) (.slice Bz mz dz) (.int .i64 (qa : Int)) (.int .i64 er) (.int .i64 at_) (.int .i64 0), _, qk, qx, (qa), to, _, _, rfl, ⟨_, _, _, _, _, _, _, rfl, (HLZ.out.eight (fun b (hb : w1.heap.size ≤ b) => by omega) (fun b (hb : w1.heap.size ≤ b) => by omega) _ _ _ _ _ _ _ _).from (fun b (hb : w1.heap.size ≤ b) => by omega)⟩, hxs, HBAD.out, fun _ _ _ h => by cases h⟩
   | false =>
    have HLT := Lib.hid (fun (c : Int) (w : World) => letter45_any c w)
    cases hl : low26 (bt s i) with
    | true =>
     have HL := Lib.hid hl
     clear hl
     go_wp2_with fail
     refine (HLT.out _ _).mono ?_
     rintro e wq ⟨rfl, hww⟩
     obtain rfl : w1 = wq := hww.symm
     rw [HL.out]
     go_wp2_with fail
     refine (word46_any s i w1 hs hi HL.out).mono ?_
     rintro e w2 ⟨hb2, wk, wx, to, ok, rfl, hxs, hto, hto2⟩
     have HB2 := Lib.hid (below_then HB1.out HB1.out.size hb2)
     have HRES2 := Lib.hid (blk_below HRES1.out hb2 (blk_lt HRES1.out))
     have HFB2 := Lib.hid (blk_below HFB1.out hb2 (blk_lt HFB1.out))
     have HBD2 := Lib.hid (blk_below HBD1.out hb2 (blk_lt HBD1.out))
     clear hb2 HRES1 HFB1 HB1 HBD1 hb0
     have hb0 := HB2.out.size
     have hres2 := blk_lt HRES2.out
     have hfb2 := blk_lt HFB2.out
     have HXS := Lib.hid hxs
     clear hxs
     cases ok with
     | true =>
      have r0 := blk_cell HRES2.out 0
      have rf0 := blk_frozen HRES2.out 0
      have r1 := blk_cell HRES2.out 1
      have rf1 := blk_frozen HRES2.out 1
      have r2 := blk_cell HRES2.out 2
      have rf2 := blk_frozen HRES2.out 2
      have r3 := blk_cell HRES2.out 3
      have rf3 := blk_frozen HRES2.out 3
      have r4 := blk_cell HRES2.out 4
      have rf4 := blk_frozen HRES2.out 4
      have g0 := blk_cell HFB2.out 0
      have gf0 := blk_frozen HFB2.out 0
      have g1 := blk_cell HFB2.out 1
      have gf1 := blk_frozen HFB2.out 1
      have g2 := blk_cell HFB2.out 2
      have gf2 := blk_frozen HFB2.out 2
      go_wp2_with fail
      obtain ⟨hr', hf'⟩ := eight_res HRES2.out HFB2.out (by omega) (.int .i64 wk) (.string wx) (.slice none 0 0) (.slice none 0 0) (.int .i64 (i : Int)) (.int .i64 0) (.int .i64 0) (.int .i64 0)
      have hr := blk_alloc (hr') (.cells #[.int .i64 wk, .string wx, .slice none 0 0, .slice none 0 0, .int .i64 (i : Int)] 43)
      have hf := blk_alloc (hf') (.cells #[.int .i64 wk, .string wx, .slice none 0 0, .slice none 0 0, .int .i64 (i : Int)] 43)
      clear hr' hf'
      unfold eightSet fiveSet at hr hf
      have q0 := blk_cell hr 0
      have q1 := blk_cell hr 1
      have q2 := blk_cell hr 2
      have q3 := blk_cell hr 3
      have q4 := blk_cell hr 4
      have q5 := blk_cell hf 0
      have q6 := blk_cell hf 1
      have q7 := blk_cell hf 2
      refine bodyPost_ret (v := .tuple #[.agg #[.int .i64 wk, .string wx, .slice none 0 0, .slice none 0 0, .int .i64 (i : Int)], .int .i64 (to : Int), faultV (0) (0)]) (by simp [results, Try.results26, go_sem, faultV, q0, q1, q2, q3, q4, q5, q6, q7]) rfl ?_
      exact ⟨(below_eight HB2.out (Nat.le_refl _) (by omega) (.int .i64 wk) (.string wx) (.slice none 0 0) (.slice none 0 0) (.int .i64 (i : Int)) (.int .i64 0) (.int .i64 0) (.int .i64 0)).alloc (by simpa [World.setCell, eightSet, fiveSet] using hb0) _, _, wk, wx, (i), to, _, _, rfl, ⟨none, 0, 0, none, 0, 0, ⟨[], []⟩, rfl, lit_none _ _⟩, HXS.out, .inr ⟨rfl, hto, hto2⟩, fun _ _ _ h => by cases h⟩
     | false =>
      have r0 := blk_cell HRES2.out 0
      have rf0 := blk_frozen HRES2.out 0
      have r1 := blk_cell HRES2.out 1
      have rf1 := blk_frozen HRES2.out 1
      have r2 := blk_cell HRES2.out 2
      have rf2 := blk_frozen HRES2.out 2
      have r3 := blk_cell HRES2.out 3
      have rf3 := blk_frozen HRES2.out 3
      have r4 := blk_cell HRES2.out 4
      have rf4 := blk_frozen HRES2.out 4
      have g0 := blk_cell HFB2.out 0
      have gf0 := blk_frozen HFB2.out 0
      have g1 := blk_cell HFB2.out 1
      have gf1 := blk_frozen HFB2.out 1
      have g2 := blk_cell HFB2.out 2
      have gf2 := blk_frozen HFB2.out 2
      go_wp2_with fail
      have HB3 := Lib.hid (HB2.out.alloc hb0 (.cells #[.int .i64 wk, .string wx, .slice none 0 0, .slice none 0 0, .int .i64 (i : Int)] 43))
      have HRES3 := Lib.hid (blk_alloc HRES2.out (.cells #[.int .i64 wk, .string wx, .slice none 0 0, .slice none 0 0, .int .i64 (i : Int)] 43))
      have HFB3 := Lib.hid (blk_alloc HFB2.out (.cells #[.int .i64 wk, .string wx, .slice none 0 0, .slice none 0 0, .int .i64 (i : Int)] 43))
      have HBD3 := Lib.hid (blk_alloc HBD2.out (.cells #[.int .i64 wk, .string wx, .slice none 0 0, .slice none 0 0, .int .i64 (i : Int)] 43))
      have HTK3 := Lib.hid (blk_new w2 (.cells #[.int .i64 wk, .string wx, .slice none 0 0, .slice none 0 0, .int .i64 (i : Int)] 43))
      clear r0 rf0 r1 rf1 r2 rf2 r3 rf3 r4 rf4 g0 gf0 g1 gf1 g2 gf2 HB2 HRES2 HFB2 HBD2
      obtain ⟨W3, hW3⟩ : ∃ W, w2.alloc (.cells #[.int .i64 wk, .string wx, .slice none 0 0, .slice none 0 0, .int .i64 (i : Int)] 43) = W := ⟨_, rfl⟩
      rw [hW3] at HB3 HRES3 HFB3 HBD3 HTK3 ⊢
      clear hW3
      generalize w2.heap.size = bT at *
      have hres3 := blk_lt HRES3.out
      have hfb3 := blk_lt HFB3.out
      have hbd3 := blk_lt HBD3.out
      have htk3 := blk_lt HTK3.out
      have hb3 := HB3.out.size
      have r0 := blk_cell HRES3.out 0
      have rf0 := blk_frozen HRES3.out 0
      have r1 := blk_cell HRES3.out 1
      have rf1 := blk_frozen HRES3.out 1
      have r2 := blk_cell HRES3.out 2
      have rf2 := blk_frozen HRES3.out 2
      have r3 := blk_cell HRES3.out 3
      have rf3 := blk_frozen HRES3.out 3
      have r4 := blk_cell HRES3.out 4
      have rf4 := blk_frozen HRES3.out 4
      have g0 := blk_cell HFB3.out 0
      have gf0 := blk_frozen HFB3.out 0
      have g1 := blk_cell HFB3.out 1
      have gf1 := blk_frozen HFB3.out 1
      have g2 := blk_cell HFB3.out 2
      have gf2 := blk_frozen HFB3.out 2
      have t0 := blk_cell HTK3.out 0
      have tf0 := blk_frozen HTK3.out 0
      have t1 := blk_cell HTK3.out 1
      have tf1 := blk_frozen HTK3.out 1
      have t2 := blk_cell HTK3.out 2
      have tf2 := blk_frozen HTK3.out 2
      have t3 := blk_cell HTK3.out 3
      have tf3 := blk_frozen HTK3.out 3
      have t4 := blk_cell HTK3.out 4
      have tf4 := blk_frozen HTK3.out 4
      have d0 := blk_cell HBD3.out 0
      have df0 := blk_frozen HBD3.out 0
      have d1 := blk_cell HBD3.out 1
      have df1 := blk_frozen HBD3.out 1
      have d2 := blk_cell HBD3.out 2
      have df2 := blk_frozen HBD3.out 2
      go_region
      all_goals
       go_wp2
       obtain ⟨hr', hf'⟩ := eight_res HRES3.out HFB3.out (by omega) (.int .i64 wk) (.string wx) (.slice none 0 0) (.slice none 0 0) (.int .i64 (i : Int)) (.int .i64 2) (.int .i64 (i : Int)) (.int .i64 0)
       have hr := blk_drew hr'
       have hf := blk_drew hf'
       clear hr' hf'
       unfold eightSet fiveSet at hr hf
       have q0 := blk_cell hr 0
       have q1 := blk_cell hr 1
       have q2 := blk_cell hr 2
       have q3 := blk_cell hr 3
       have q4 := blk_cell hr 4
       have q5 := blk_cell hf 0
       have q6 := blk_cell hf 1
       have q7 := blk_cell hf 2
       refine bodyPost_ret (v := .tuple #[.agg #[.int .i64 wk, .string wx, .slice none 0 0, .slice none 0 0, .int .i64 (i : Int)], .int .i64 (to : Int), faultV (2) ((i : Int))]) (by simp [results, Try.results26, go_sem, faultV, q0, q1, q2, q3, q4, q5, q6, q7]) rfl ?_
       exact ⟨(below_eight HB3.out (Nat.le_refl _) (by omega) (.int .i64 wk) (.string wx) (.slice none 0 0) (.slice none 0 0) (.int .i64 (i : Int)) (.int .i64 2) (.int .i64 (i : Int)) (.int .i64 0)).drew, _, wk, wx, (i), to, _, _, rfl, ⟨none, 0, 0, none, 0, 0, ⟨[], []⟩, rfl, lit_none _ _⟩, HXS.out, .inl (by decide), fun _ _ _ h => by cases h⟩
    | false =>
     have HL := Lib.hid hl
     clear hl
     go_wp2_with fail
     refine (HLT.out _ _).mono ?_
     rintro e wq ⟨rfl, hww⟩
     obtain rfl : w1 = wq := hww.symm
     rw [HL.out]
     go_wp2_with fail
     refine (fixed47_any s i w1 hs (Nat.le_of_lt hi)).mono ?_
     rintro e w2 ⟨hb2, fk, fx, fa, ok, rfl, hxs, hok⟩
     have HB2 := Lib.hid (below_then HB1.out HB1.out.size hb2)
     have HRES2 := Lib.hid (blk_below HRES1.out hb2 (blk_lt HRES1.out))
     have HFB2 := Lib.hid (blk_below HFB1.out hb2 (blk_lt HFB1.out))
     have HBD2 := Lib.hid (blk_below HBD1.out hb2 (blk_lt HBD1.out))
     clear hb2 HRES1 HFB1 HB1 HBD1 hb0
     have hb0 := HB2.out.size
     have hres2 := blk_lt HRES2.out
     have hfb2 := blk_lt HFB2.out
     have HXS := Lib.hid hxs
     cases ok with
     | true =>
      clear hxs
      have r0 := blk_cell HRES2.out 0
      have rf0 := blk_frozen HRES2.out 0
      have r1 := blk_cell HRES2.out 1
      have rf1 := blk_frozen HRES2.out 1
      have r2 := blk_cell HRES2.out 2
      have rf2 := blk_frozen HRES2.out 2
      have r3 := blk_cell HRES2.out 3
      have rf3 := blk_frozen HRES2.out 3
      have r4 := blk_cell HRES2.out 4
      have rf4 := blk_frozen HRES2.out 4
      have g0 := blk_cell HFB2.out 0
      have gf0 := blk_frozen HFB2.out 0
      have g1 := blk_cell HFB2.out 1
      have gf1 := blk_frozen HFB2.out 1
      have g2 := blk_cell HFB2.out 2
      have gf2 := blk_frozen HFB2.out 2
      have hok2 := hok rfl
      have hwf : IntKind.i64.wrap ((i : Int) + (fx.size : Int)) = ((i + fx.size : Nat) : Int) := (wraps_i64 _ (by omega) (by omega)).trans (by omega)
      go_wp2_with fail
      have HB3 := Lib.hid (HB2.out.alloc hb0 (.cells #[.int .i64 fk, .string fx, .slice none 0 0, .slice none 0 0, .int .i64 (fa : Int)] 43))
      have HRES3 := Lib.hid (blk_alloc HRES2.out (.cells #[.int .i64 fk, .string fx, .slice none 0 0, .slice none 0 0, .int .i64 (fa : Int)] 43))
      have HFB3 := Lib.hid (blk_alloc HFB2.out (.cells #[.int .i64 fk, .string fx, .slice none 0 0, .slice none 0 0, .int .i64 (fa : Int)] 43))
      have HBD3 := Lib.hid (blk_alloc HBD2.out (.cells #[.int .i64 fk, .string fx, .slice none 0 0, .slice none 0 0, .int .i64 (fa : Int)] 43))
      have HTK3 := Lib.hid (blk_new w2 (.cells #[.int .i64 fk, .string fx, .slice none 0 0, .slice none 0 0, .int .i64 (fa : Int)] 43))
      clear r0 rf0 r1 rf1 r2 rf2 r3 rf3 r4 rf4 g0 gf0 g1 gf1 g2 gf2 HB2 HRES2 HFB2 HBD2
      obtain ⟨W3, hW3⟩ : ∃ W, w2.alloc (.cells #[.int .i64 fk, .string fx, .slice none 0 0, .slice none 0 0, .int .i64 (fa : Int)] 43) = W := ⟨_, rfl⟩
      rw [hW3] at HB3 HRES3 HFB3 HBD3 HTK3 ⊢
      clear hW3
      generalize w2.heap.size = bT at *
      have hres3 := blk_lt HRES3.out
      have hfb3 := blk_lt HFB3.out
      have hbd3 := blk_lt HBD3.out
      have htk3 := blk_lt HTK3.out
      have hb3 := HB3.out.size
      have r0 := blk_cell HRES3.out 0
      have rf0 := blk_frozen HRES3.out 0
      have r1 := blk_cell HRES3.out 1
      have rf1 := blk_frozen HRES3.out 1
      have r2 := blk_cell HRES3.out 2
      have rf2 := blk_frozen HRES3.out 2
      have r3 := blk_cell HRES3.out 3
      have rf3 := blk_frozen HRES3.out 3
      have r4 := blk_cell HRES3.out 4
      have rf4 := blk_frozen HRES3.out 4
      have g0 := blk_cell HFB3.out 0
      have gf0 := blk_frozen HFB3.out 0
      have g1 := blk_cell HFB3.out 1
      have gf1 := blk_frozen HFB3.out 1
      have g2 := blk_cell HFB3.out 2
      have gf2 := blk_frozen HFB3.out 2
      have t0 := blk_cell HTK3.out 0
      have tf0 := blk_frozen HTK3.out 0
      have t1 := blk_cell HTK3.out 1
      have tf1 := blk_frozen HTK3.out 1
      have t2 := blk_cell HTK3.out 2
      have tf2 := blk_frozen HTK3.out 2
      have t3 := blk_cell HTK3.out 3
      have tf3 := blk_frozen HTK3.out 3
      have t4 := blk_cell HTK3.out 4
      have tf4 := blk_frozen HTK3.out 4
      clear HBD3 hbd3
      go_region
      all_goals
       go_wp2
       obtain ⟨hr', hf'⟩ := eight_res HRES3.out HFB3.out (by omega) (.int .i64 fk) (.string fx) (.slice none 0 0) (.slice none 0 0) (.int .i64 (fa : Int)) (.int .i64 0) (.int .i64 0) (.int .i64 0)
       have hr := blk_drew hr'
       have hf := blk_drew hf'
       clear hr' hf'
       unfold eightSet fiveSet at hr hf
       have q0 := blk_cell hr 0
       have q1 := blk_cell hr 1
       have q2 := blk_cell hr 2
       have q3 := blk_cell hr 3
       have q4 := blk_cell hr 4
       have q5 := blk_cell hf 0
       have q6 := blk_cell hf 1
       have q7 := blk_cell hf 2
       refine bodyPost_ret (v := .tuple #[.agg #[.int .i64 fk, .string fx, .slice none 0 0, .slice none 0 0, .int .i64 (fa : Int)], .int .i64 (i + fx.size : Int), faultV (0) (0)]) (by simp [results, Try.results26, go_sem, faultV, q0, q1, q2, q3, q4, q5, q6, q7]) rfl ?_
       exact ⟨(below_eight HB3.out (Nat.le_refl _) (by omega) (.int .i64 fk) (.string fx) (.slice none 0 0) (.slice none 0 0) (.int .i64 (fa : Int)) (.int .i64 0) (.int .i64 0) (.int .i64 0)).drew, _, fk, fx, (fa), i + fx.size, _, _, rfl, ⟨none, 0, 0, none, 0, 0, ⟨[], []⟩, rfl, lit_none _ _⟩, HXS.out, .inr ⟨rfl, by omega, by omega⟩, fun _ _ _ h => by cases h⟩
     | false =>
      clear hok hxs
      have r0 := blk_cell HRES2.out 0
      have rf0 := blk_frozen HRES2.out 0
      have r1 := blk_cell HRES2.out 1
      have rf1 := blk_frozen HRES2.out 1
      have r2 := blk_cell HRES2.out 2
      have rf2 := blk_frozen HRES2.out 2
      have r3 := blk_cell HRES2.out 3
      have rf3 := blk_frozen HRES2.out 3
      have r4 := blk_cell HRES2.out 4
      have rf4 := blk_frozen HRES2.out 4
      have g0 := blk_cell HFB2.out 0
      have gf0 := blk_frozen HFB2.out 0
      have g1 := blk_cell HFB2.out 1
      have gf1 := blk_frozen HFB2.out 1
      have g2 := blk_cell HFB2.out 2
      have gf2 := blk_frozen HFB2.out 2
      go_wp2_with fail
      have HB3 := Lib.hid (HB2.out.alloc hb0 (.cells #[.int .i64 fk, .string fx, .slice none 0 0, .slice none 0 0, .int .i64 (fa : Int)] 43))
      have HRES3 := Lib.hid (blk_alloc HRES2.out (.cells #[.int .i64 fk, .string fx, .slice none 0 0, .slice none 0 0, .int .i64 (fa : Int)] 43))
      have HFB3 := Lib.hid (blk_alloc HFB2.out (.cells #[.int .i64 fk, .string fx, .slice none 0 0, .slice none 0 0, .int .i64 (fa : Int)] 43))
      have HBD3 := Lib.hid (blk_alloc HBD2.out (.cells #[.int .i64 fk, .string fx, .slice none 0 0, .slice none 0 0, .int .i64 (fa : Int)] 43))
      have HTK3 := Lib.hid (blk_new w2 (.cells #[.int .i64 fk, .string fx, .slice none 0 0, .slice none 0 0, .int .i64 (fa : Int)] 43))
      clear r0 rf0 r1 rf1 r2 rf2 r3 rf3 r4 rf4 g0 gf0 g1 gf1 g2 gf2 HB2 HRES2 HFB2 HBD2
      obtain ⟨W3, hW3⟩ : ∃ W, w2.alloc (.cells #[.int .i64 fk, .string fx, .slice none 0 0, .slice none 0 0, .int .i64 (fa : Int)] 43) = W := ⟨_, rfl⟩
      rw [hW3] at HB3 HRES3 HFB3 HBD3 HTK3 ⊢
      clear hW3
      generalize w2.heap.size = bT at *
      have hres3 := blk_lt HRES3.out
      have hfb3 := blk_lt HFB3.out
      have hbd3 := blk_lt HBD3.out
      have htk3 := blk_lt HTK3.out
      have hb3 := HB3.out.size
      have r0 := blk_cell HRES3.out 0
      have rf0 := blk_frozen HRES3.out 0
      have r1 := blk_cell HRES3.out 1
      have rf1 := blk_frozen HRES3.out 1
      have r2 := blk_cell HRES3.out 2
      have rf2 := blk_frozen HRES3.out 2
      have r3 := blk_cell HRES3.out 3
      have rf3 := blk_frozen HRES3.out 3
      have r4 := blk_cell HRES3.out 4
      have rf4 := blk_frozen HRES3.out 4
      have g0 := blk_cell HFB3.out 0
      have gf0 := blk_frozen HFB3.out 0
      have g1 := blk_cell HFB3.out 1
      have gf1 := blk_frozen HFB3.out 1
      have g2 := blk_cell HFB3.out 2
      have gf2 := blk_frozen HFB3.out 2
      have t0 := blk_cell HTK3.out 0
      have tf0 := blk_frozen HTK3.out 0
      have t1 := blk_cell HTK3.out 1
      have tf1 := blk_frozen HTK3.out 1
      have t2 := blk_cell HTK3.out 2
      have tf2 := blk_frozen HTK3.out 2
      have t3 := blk_cell HTK3.out 3
      have tf3 := blk_frozen HTK3.out 3
      have t4 := blk_cell HTK3.out 4
      have tf4 := blk_frozen HTK3.out 4
      have d0 := blk_cell HBD3.out 0
      have df0 := blk_frozen HBD3.out 0
      have d1 := blk_cell HBD3.out 1
      have df1 := blk_frozen HBD3.out 1
      have d2 := blk_cell HBD3.out 2
      have df2 := blk_frozen HBD3.out 2
      go_region
      all_goals
       go_wp2
       obtain ⟨hr', hf'⟩ := eight_res HRES3.out HFB3.out (by omega) (.int .i64 fk) (.string fx) (.slice none 0 0) (.slice none 0 0) (.int .i64 (fa : Int)) (.int .i64 2) (.int .i64 (i : Int)) (.int .i64 0)
       have hr := blk_drew hr'
       have hf := blk_drew hf'
       clear hr' hf'
       unfold eightSet fiveSet at hr hf
       have q0 := blk_cell hr 0
       have q1 := blk_cell hr 1
       have q2 := blk_cell hr 2
       have q3 := blk_cell hr 3
       have q4 := blk_cell hr 4
       have q5 := blk_cell hf 0
       have q6 := blk_cell hf 1
       have q7 := blk_cell hf 2
       refine bodyPost_ret (v := .tuple #[.agg #[.int .i64 fk, .string fx, .slice none 0 0, .slice none 0 0, .int .i64 (fa : Int)], .int .i64 (i : Int), faultV (2) ((i : Int))]) (by simp [results, Try.results26, go_sem, faultV, q0, q1, q2, q3, q4, q5, q6, q7]) rfl ?_
       exact ⟨(below_eight HB3.out (Nat.le_refl _) (by omega) (.int .i64 fk) (.string fx) (.slice none 0 0) (.slice none 0 0) (.int .i64 (fa : Int)) (.int .i64 2) (.int .i64 (i : Int)) (.int .i64 0)).drew, _, fk, fx, (fa), i, _, _, rfl, ⟨none, 0, 0, none, 0, 0, ⟨[], []⟩, rfl, lit_none _ _⟩, HXS.out, .inl (by decide), fun _ _ _ h => by cases h⟩
end Go.Proofs.Ytollglblkbjgjaa
namespace Go.Proofs.Ytollglblkbjgjaa
open Go.RowKit

set_option maxRecDepth 100000 in
set_option maxHeartbeats 8000000 in
theorem quoted50_any (s : ByteArray) (i : Nat) (w : World) (hs : s.size ≤ 1000000) (hi : i < s.size) : Calls Try.prog 50 #[.string s, .int .i64 (i : Int)] w (WordTo none s i w) := by
 obtain ⟨i2, hi2, hz2, hs2, hb2⟩ := info_parts info2
 have hw1 : IntKind.i64.wrap ((i : Int) + 1) = ((i + 1 : Nat) : Int) := (wraps_i64 _ (by omega) (by omega)).trans (by omega)
 obtain ⟨i1, hi1⟩ : ∃ i1, i + 1 = i1 := ⟨_, rfl⟩
 rw [hi1] at hw1
 have hi1l : i < i1 ∧ i1 ≤ s.size := by omega
 clear hi1
 go_enter Try.func50, Try.ntmps50
 go_wp2
 go_loopw [8, 9] (fun l q wr => ∃ (k : Nat) (acc : List Int), l = l ∧ q = .int .i64 k ∧ i1 ≤ k ∧ k ≤ s.size ∧ acc.length ≤ k ∧ Below w.heap.size w wr ∧ wr.heap[w.heap.size]? = some (.cells #[.int .i64 0, .string ⟨#[]⟩, .slice none 0 0, .slice none 0 0, .int .i64 0] 43 (0, 0)) ∧ wr.heap[w.heap.size + 1]? = some (.cells #[.int .i64 0, .int .i64 0, .int .i64 0] 28 (0, 0)) ∧ wr.heap[w.heap.size + 2]? = some (.cells #[.int .i64 2, .string ⟨#[]⟩, .slice none 0 0, .slice none 0 0, .int .i64 (i : Int)] 43 (0, 0)) ∧ wr.ownsRow (w.heap.size + 3) 2 1 l acc.length (nums .i64 acc)) (fun _ q _ => s.size - (intOf q).toNat)
 case atStart =>
  refine ⟨i1, [], rfl, rfl, Nat.le_refl _, hi1l.2, Nat.zero_le _, ((((Below.refl _ _).alloc (Nat.le_refl _) _).alloc (by simp) _).alloc (by simp; omega) _), blk_alloc (blk_alloc (blk_new w _) _) _, ?_, ?_, World.ownsRow_nil _ _ _ _⟩
  ·have := blk_alloc (blk_new (w.alloc (.cells #[.int .i64 0, .string ⟨#[]⟩, .slice none 0 0, .slice none 0 0, .int .i64 0] 43)) (.cells #[.int .i64 0, .int .i64 0, .int .i64 0] 28)) (.cells #[.int .i64 2, .string ⟨#[]⟩, .slice none 0 0, .slice none 0 0, .int .i64 (i : Int)] 43)
   simpa using this
  ·have := blk_new ((w.alloc (.cells #[.int .i64 0, .string ⟨#[]⟩, .slice none 0 0, .slice none 0 0, .int .i64 0] 43)).alloc (.cells #[.int .i64 0, .int .i64 0, .int .i64 0] 28)) (.cells #[.int .i64 2, .string ⟨#[]⟩, .slice none 0 0, .slice none 0 0, .int .i64 (i : Int)] 43)
   simpa using this
 case round =>
  obtain ⟨k, acc, -, rfl, hik, hk, hacc, hb, hres, hfb, htk, hown⟩ := hrel
  have HB0 := Lib.hid hb
  have HRES0 := Lib.hid hres
  have HFB0 := Lib.hid hfb
  have HTK0 := Lib.hid htk
  have HOWN0 := Lib.hid hown
  clear hb hres hfb htk hown
  by_cases hlt : k < s.size
  ·have d1 : decide ((k : Int) < (s.size : Int)) = true := decide_eq_true (by omega)
   have hsc := sign_cases hlt
   have h0k : (0 : Int) ≤ (k : Int) := by omega
   have h1k : (k : Int) ≤ (s.size : Int) := by omega
   obtain ⟨kl, hkl⟩ : ∃ kl, s.size = k + kl := ⟨s.size - k, by omega⟩
   have hx := extract_size s k kl (by omega)
   rw [← hkl] at hx
   have HX := Lib.hid (show Spec.one (nb (s.extract k s.size)) = signM s k by
    have := nb_extract s k kl
    rw [← hkl] at this
    rw [this, List.take_of_length_le (by rw [List.length_drop, nb_length]; omega)]
    rfl)
   obtain ⟨cap, W1, hc, hcap, hrow, hbel⟩ := conv_text (s.extract k s.size) wr (by omega)
   rw [hx] at hc hcap
   have HROW := Lib.hid hrow
   have HBEL := Lib.hid hbel
   clear hrow hbel hkl
   go_wp2_with fail
   refine (rone_any _ kl cap (nb (s.extract k s.size)) W1 HROW.out ((nb_length _).trans hx) hcap (nb_bytes _)).mono ?_
   rintro e w1 ⟨rfl, hb1⟩
   rw [HX.out]
   have hb1 : Below wr.heap.size wr w1 := HBEL.out.trans (hb1.mono HBEL.out.size)
   clear HROW HBEL HX hc hx hcap
   have HB := Lib.hid (below_then HB0.out HB0.out.size hb1)
   have HRES := Lib.hid (blk_below HRES0.out hb1 (blk_lt HRES0.out))
   have HFB := Lib.hid (blk_below HFB0.out hb1 (blk_lt HFB0.out))
   have HTK := Lib.hid (blk_below HTK0.out hb1 (blk_lt HTK0.out))
   have HOWN := Lib.hid (own_below HOWN0.out hb1)
   clear hb1 HB0 HRES0 HFB0 HTK0 HOWN0
   generalize w1 = wr at *
   have hres0 := blk_lt HRES.out
   have hfb0 := blk_lt HFB.out
   have htk0 := blk_lt HTK.out
   have t0 := blk_cell HTK.out 0
   have tf0 := blk_frozen HTK.out 0
   have t1 := blk_cell HTK.out 1
   have tf1 := blk_frozen HTK.out 1
   have t2 := blk_cell HTK.out 2
   have tf2 := blk_frozen HTK.out 2
   have t3 := blk_cell HTK.out 3
   have tf3 := blk_frozen HTK.out 3
   have t4 := blk_cell HTK.out 4
   have tf4 := blk_frozen HTK.out 4
   have r0 := blk_cell HRES.out 0
   have rf0 := blk_frozen HRES.out 0
   have r1 := blk_cell HRES.out 1
   have rf1 := blk_frozen HRES.out 1
   have r2 := blk_cell HRES.out 2
   have rf2 := blk_frozen HRES.out 2
   have r3 := blk_cell HRES.out 3
   have rf3 := blk_frozen HRES.out 3
   have r4 := blk_cell HRES.out 4
   have rf4 := blk_frozen HRES.out 4
   have g0 := blk_cell HFB.out 0
   have gf0 := blk_frozen HFB.out 0
   have g1 := blk_cell HFB.out 1
   have gf1 := blk_frozen HFB.out 1
   have g2 := blk_cell HFB.out 2
   have gf2 := blk_frozen HFB.out 2
   rcases hsc with hsc | ⟨n, kk, hsc, hk1, hk4, hks, hn⟩
   ·rw [hsc]
    clear hsc
    go_wp2
    obtain ⟨hr, hf⟩ := eight_res HRES.out HFB.out (by omega) (.int .i64 2) (.string ⟨#[]⟩) (.slice none 0 0) (.slice none 0 0) (.int .i64 (i : Int)) (.int .i64 3) (.int .i64 (k : Int)) (.int .i64 0)
    unfold eightSet fiveSet at hr hf
    have q0 := blk_cell hr 0
    have q1 := blk_cell hr 1
    have q2 := blk_cell hr 2
    have q3 := blk_cell hr 3
    have q4 := blk_cell hr 4
    have q5 := blk_cell hf 0
    have q6 := blk_cell hf 1
    have q7 := blk_cell hf 2
    refine bodyPost_ret (v := .tuple #[.agg #[.int .i64 2, .string ⟨#[]⟩, .slice none 0 0, .slice none 0 0, .int .i64 (i : Int)], .int .i64 (k : Int), faultV (3) ((k : Int))]) (by simp [results, Try.results50, go_sem, faultV, q0, q1, q2, q3, q4, q5, q6, q7]) rfl ?_
    exact ⟨below_eight HB.out (Nat.le_refl _) (by omega) (.int .i64 2) (.string ⟨#[]⟩) (.slice none 0 0) (.slice none 0 0) (.int .i64 (i : Int)) (.int .i64 3) (.int .i64 (k : Int)) (.int .i64 0), _, _, _, i, k, _, _, rfl, ⟨none, 0, 0, none, 0, 0, ⟨[], []⟩, rfl, lit_none _ _⟩, Nat.zero_le _, .inl (by decide), fun _ _ _ h => by cases h⟩
   ·rw [hsc]
    clear hsc
    have b0 : ((kk : Int) == 0) = false := beq_eq_false_iff_ne.2 (by omega)
    by_cases h34 : n = 34
    ·subst h34
     obtain ⟨lA, lcap, rfl, hlc, _, _, _, hrw⟩ := own_row HOWN.out
     have HRW := Lib.hid hrw
     clear hrw
     go_wp2_with fail
     refine (rtext_any lA acc.length lcap acc wr HRW.out rfl (by omega)).mono ?_
     rintro e w4 ⟨v4, rfl, hlit4, hb4⟩
     obtain ⟨A4, n4, c4, B4, m4, d4, rfl⟩ := hlit4.form
     have hwk : IntKind.i64.wrap ((k : Int) + 1) = ((k + 1 : Nat) : Int) := (wraps_i64 _ (by omega) (by omega)).trans (by omega)
     have HB4 := Lib.hid (below_then HB.out HB.out.size hb4)
     have HRES4 := Lib.hid (blk_below HRES.out hb4 hres0)
     have HFB4 := Lib.hid (blk_below HFB.out hb4 hfb0)
     have HTK4 := Lib.hid (blk_below HTK.out hb4 htk0)
     have hs4 := hb4.size
     have HLIT5 := Lib.hid ((hlit4.set (g := w.heap.size + 2) (i := 2) (u := .slice A4 n4 c4) (fun b (hb : wr.heap.size ≤ b) => by omega)).mono (T := fun b => w.heap.size + 2 < b) (Nat.le_refl _) (fun b (hb : wr.heap.size ≤ b) _ => ⟨by omega, rfl⟩))
     have HLIT6 := Lib.hid (HLIT5.out.set (g := w.heap.size + 2) (i := 3) (u := .slice B4 m4 d4) (fun b hb => by omega))
     clear hlit4 hb4 t0 tf0 r0 rf0 t1 tf1 r1 rf1 t2 tf2 r2 rf2 t3 tf3 r3 rf3 t4 tf4 r4 rf4 g0 gf0 g1 gf1 g2 gf2
     have HB5 := Lib.hid (below_set (below_set HB4.out (g := w.heap.size + 2) (by omega) 2 (.slice A4 n4 c4)) (g := w.heap.size + 2) (by omega) 3 (.slice B4 m4 d4))
     have HRES5 := Lib.hid (blk_far (p := ⟨w.heap.size + 2, 3, none⟩) (blk_far (p := ⟨w.heap.size + 2, 2, none⟩) HRES4.out (by simp) (.slice A4 n4 c4)) (by simp) (.slice B4 m4 d4))
     have HFB5 := Lib.hid (blk_far (p := ⟨w.heap.size + 2, 3, none⟩) (blk_far (p := ⟨w.heap.size + 2, 2, none⟩) HFB4.out (by simp) (.slice A4 n4 c4)) (by simp) (.slice B4 m4 d4))
     have hres4 := blk_lt HRES4.out
     have hfb4 := blk_lt HFB4.out
     have htk4 := blk_lt HTK4.out
     have t0 := blk_cell HTK4.out 0
     have tf0 := blk_frozen HTK4.out 0
     have t1 := blk_cell HTK4.out 1
     have tf1 := blk_frozen HTK4.out 1
     have t2 := blk_cell HTK4.out 2
     have tf2 := blk_frozen HTK4.out 2
     have t3 := blk_cell HTK4.out 3
     have tf3 := blk_frozen HTK4.out 3
     have t4 := blk_cell HTK4.out 4
     have tf4 := blk_frozen HTK4.out 4
     have r0 := blk_cell HRES4.out 0
     have rf0 := blk_frozen HRES4.out 0
     have r1 := blk_cell HRES4.out 1
     have rf1 := blk_frozen HRES4.out 1
     have r2 := blk_cell HRES4.out 2
     have rf2 := blk_frozen HRES4.out 2
     have r3 := blk_cell HRES4.out 3
     have rf3 := blk_frozen HRES4.out 3
     have r4 := blk_cell HRES4.out 4
     have rf4 := blk_frozen HRES4.out 4
     have g0 := blk_cell HFB4.out 0
     have gf0 := blk_frozen HFB4.out 0
     have g1 := blk_cell HFB4.out 1
     have gf1 := blk_frozen HFB4.out 1
     have g2 := blk_cell HFB4.out 2
     have gf2 := blk_frozen HFB4.out 2
     go_wp2_with fail
     obtain ⟨hr, hf⟩ := eight_res HRES5.out HFB5.out (by omega) (.int .i64 2) (.string ⟨#[]⟩) (.slice A4 n4 c4) (.slice B4 m4 d4) (.int .i64 (i : Int)) (.int .i64 0) (.int .i64 0) (.int .i64 0)
     unfold eightSet fiveSet at hr hf
     have q0 := blk_cell hr 0
     have q1 := blk_cell hr 1
     have q2 := blk_cell hr 2
     have q3 := blk_cell hr 3
     have q4 := blk_cell hr 4
     have q5 := blk_cell hf 0
     have q6 := blk_cell hf 1
     have q7 := blk_cell hf 2
     refine bodyPost_ret (v := .tuple #[.agg #[.int .i64 2, .string ⟨#[]⟩, .slice A4 n4 c4, .slice B4 m4 d4, .int .i64 (i : Int)], .int .i64 (k + 1 : Int), faultV (0) (0)]) (by simp [results, Try.results50, go_sem, faultV, q0, q1, q2, q3, q4, q5, q6, q7]) rfl ?_
     exact ⟨below_eight HB5.out (Nat.le_refl _) (by omega) (.int .i64 2) (.string ⟨#[]⟩) (.slice A4 n4 c4) (.slice B4 m4 d4) (.int .i64 (i : Int)) (.int .i64 0) (.int .i64 0) (.int .i64 0), _, _, _, i, k + 1, _, _, rfl, ⟨_, _, _, _, _, _, _, rfl, (HLIT6.out.eight (fun b hb => by omega) (fun b hb => by omega) _ _ _ _ _ _ _ _).from (fun b hb => by omega)⟩, Nat.zero_le _, .inr ⟨rfl, by omega, by omega⟩, fun _ _ _ h => by cases h⟩
    ·have b34 : ((n : Int) == 34) = false := beq_eq_false_iff_ne.2 (by omega)
     by_cases h92 : n = 92
     ·subst h92
      clear h34
      have HST1 := Lib.hid (starts_any s ⟨#[92, 92]⟩ k wr hs (by omega) (by decide))
      have HST2 := Lib.hid (starts_any s ⟨#[92, 34]⟩ k wr hs (by omega) (by decide))
      have hwk : IntKind.i64.wrap ((k : Int) + 2) = ((k + 2 : Nat) : Int) := (wraps_i64 _ (by omega) (by omega)).trans (by omega)
      cases hst2 : startsM s k ⟨#[92, 34]⟩ with
      | true =>
       have hle : k + 2 ≤ s.size := starts_le hst2
       rw [hst2] at HST2
       clear hst2
       cases hst1 : startsM s k ⟨#[92, 92]⟩
       all_goals
        rw [hst1] at HST1
        clear hst1
        go_wp2_with fail
        refine HST1.out.mono ?_
        rintro e w3 ⟨rfl, hww⟩
        obtain rfl : wr = w3 := hww.symm
        go_wp2_with fail
        refine HST2.out.mono ?_
        rintro e w3 ⟨rfl, hww⟩
        obtain rfl : wr = w3 := hww.symm
        go_wp2_with
         (at_builtin; refine wpList_append_lies _ rfl (.tmp 61) (.tmp 63) 96 rfl (w.heap.size + 3) 2 i2 _ 1 8 Try.underlying96 hi2 hz2 hs2 hb2 rfl (by omega) u8 acc.length (nums .i64 acc) rfl (HOWN.out.alloc _)
             ⟨wr.heap.size, 0, none⟩ 1 1 (nums .i64 [(34 : Int)]) rfl rfl (World.news_of_block (cs := (nums .i64 [(34 : Int)]).toArray) (t := 2) (fr := (0, 0)) (heap_alloc_new wr _)) nums_one (by omega) (by unfold maxLen; omega) (by omega) (by simp; omega) (wr.heap.size + 1) (by simp) ?_; intro gg cap w2 hown2 hgrow hat2 hlt2; have HOWN2 := Lib.hid (show w2.ownsRow (w.heap.size + 3) 2 1 (.slice (some ⟨gg, 0, none⟩) (acc.length + 1) cap) (acc.length + 1) (nums .i64 (acc ++ [(34 : Int)])) by rw [nums_append]; exact hown2); have HB2 := Lib.hid (((HB.out.alloc HB.out.size _).grown hgrow (by have := HB.out.size; simp; omega) (fun b hb => by have := (HOWN.out.lt b hb).1; omega)) : Below w.heap.size w w2); have HRES2 := Lib.hid (blk_grown (blk_alloc HRES.out (Obj.cells (nums .i64 [(34 : Int)]).toArray 2)) hgrow (own_ne HOWN.out (by omega))); have HFB2 := Lib.hid (blk_grown (blk_alloc HFB.out (Obj.cells (nums .i64 [(34 : Int)]).toArray 2)) hgrow (own_ne HOWN.out (by omega))); have HTK2 := Lib.hid (blk_grown (blk_alloc HTK.out (Obj.cells (nums .i64 [(34 : Int)]).toArray 2)) hgrow (own_ne HOWN.out (by omega))))
        go_roundw
        case rel => exact ⟨k + 2, acc ++ [(34 : Int)], trivial, by go_num, by omega, by omega, by rw [List.length_append]; simp; omega, HB2.out, HRES2.out, HFB2.out, HTK2.out, by rw [show (acc ++ [(34 : Int)]).length = acc.length + 1 by simp]; exact HOWN2.out⟩
        case measure => simp [intOf]; omega
      | false =>
       rw [hst2] at HST2
       clear hst2
       cases hst1 : startsM s k ⟨#[92, 92]⟩ with
       | true =>
        have hle : k + 2 ≤ s.size := starts_le hst1
        rw [hst1] at HST1
        clear hst1
        go_wp2_with fail
        refine HST1.out.mono ?_
        rintro e w3 ⟨rfl, hww⟩
        obtain rfl : wr = w3 := hww.symm
        go_wp2_with fail
        refine HST2.out.mono ?_
        rintro e w3 ⟨rfl, hww⟩
        obtain rfl : wr = w3 := hww.symm
        go_wp2_with
         (at_builtin; refine wpList_append_lies _ rfl (.tmp 61) (.tmp 63) 96 rfl (w.heap.size + 3) 2 i2 _ 1 8 Try.underlying96 hi2 hz2 hs2 hb2 rfl (by omega) u8 acc.length (nums .i64 acc) rfl (HOWN.out.alloc _)
             ⟨wr.heap.size, 0, none⟩ 1 1 (nums .i64 [(92 : Int)]) rfl rfl (World.news_of_block (cs := (nums .i64 [(92 : Int)]).toArray) (t := 2) (fr := (0, 0)) (heap_alloc_new wr _)) nums_one (by omega) (by unfold maxLen; omega) (by omega) (by simp; omega) (wr.heap.size + 1) (by simp) ?_; intro gg cap w2 hown2 hgrow hat2 hlt2; have HOWN2 := Lib.hid (show w2.ownsRow (w.heap.size + 3) 2 1 (.slice (some ⟨gg, 0, none⟩) (acc.length + 1) cap) (acc.length + 1) (nums .i64 (acc ++ [(92 : Int)])) by rw [nums_append]; exact hown2); have HB2 := Lib.hid (((HB.out.alloc HB.out.size _).grown hgrow (by have := HB.out.size; simp; omega) (fun b hb => by have := (HOWN.out.lt b hb).1; omega)) : Below w.heap.size w w2); have HRES2 := Lib.hid (blk_grown (blk_alloc HRES.out (Obj.cells (nums .i64 [(92 : Int)]).toArray 2)) hgrow (own_ne HOWN.out (by omega))); have HFB2 := Lib.hid (blk_grown (blk_alloc HFB.out (Obj.cells (nums .i64 [(92 : Int)]).toArray 2)) hgrow (own_ne HOWN.out (by omega))); have HTK2 := Lib.hid (blk_grown (blk_alloc HTK.out (Obj.cells (nums .i64 [(92 : Int)]).toArray 2)) hgrow (own_ne HOWN.out (by omega))))
        go_roundw
        case rel => exact ⟨k + 2, acc ++ [(92 : Int)], trivial, by go_num, by omega, by omega, by rw [List.length_append]; simp; omega, HB2.out, HRES2.out, HFB2.out, HTK2.out, by rw [show (acc ++ [(92 : Int)]).length = acc.length + 1 by simp]; exact HOWN2.out⟩
        case measure => simp [intOf]; omega
       | false =>
        rw [hst1] at HST1
        clear hst1
        go_wp2_with fail
        refine HST1.out.mono ?_
        rintro e w3 ⟨rfl, hww⟩
        obtain rfl : wr = w3 := hww.symm
        go_wp2_with fail
        refine HST2.out.mono ?_
        rintro e w3 ⟨rfl, hww⟩
        obtain rfl : wr = w3 := hww.symm
        go_wp2
        obtain ⟨hr, hf⟩ := eight_res HRES.out HFB.out (by omega) (.int .i64 2) (.string ⟨#[]⟩) (.slice none 0 0) (.slice none 0 0) (.int .i64 (i : Int)) (.int .i64 2) (.int .i64 (k : Int)) (.int .i64 0)
        unfold eightSet fiveSet at hr hf
        have q0 := blk_cell hr 0
        have q1 := blk_cell hr 1
        have q2 := blk_cell hr 2
        have q3 := blk_cell hr 3
        have q4 := blk_cell hr 4
        have q5 := blk_cell hf 0
        have q6 := blk_cell hf 1
        have q7 := blk_cell hf 2
        refine bodyPost_ret (v := .tuple #[.agg #[.int .i64 2, .string ⟨#[]⟩, .slice none 0 0, .slice none 0 0, .int .i64 (i : Int)], .int .i64 (k : Int), faultV (2) ((k : Int))]) (by simp [results, Try.results50, go_sem, faultV, q0, q1, q2, q3, q4, q5, q6, q7]) rfl ?_
        exact ⟨below_eight HB.out (Nat.le_refl _) (by omega) (.int .i64 2) (.string ⟨#[]⟩) (.slice none 0 0) (.slice none 0 0) (.int .i64 (i : Int)) (.int .i64 2) (.int .i64 (k : Int)) (.int .i64 0), _, _, _, i, k, _, _, rfl, ⟨none, 0, 0, none, 0, 0, ⟨[], []⟩, rfl, lit_none _ _⟩, Nat.zero_le _, .inl (by decide), fun _ _ _ h => by cases h⟩
     ·have b92 : ((n : Int) == 92) = false := beq_eq_false_iff_ne.2 (by omega)
      by_cases h32 : n < 32
      ·have d32 : decide ((n : Int) < 32) = true := decide_eq_true (by omega)
       go_wp2
       obtain ⟨hr, hf⟩ := eight_res HRES.out HFB.out (by omega) (.int .i64 2) (.string ⟨#[]⟩) (.slice none 0 0) (.slice none 0 0) (.int .i64 (i : Int)) (.int .i64 2) (.int .i64 (k : Int)) (.int .i64 0)
       unfold eightSet fiveSet at hr hf
       have q0 := blk_cell hr 0
       have q1 := blk_cell hr 1
       have q2 := blk_cell hr 2
       have q3 := blk_cell hr 3
       have q4 := blk_cell hr 4
       have q5 := blk_cell hf 0
       have q6 := blk_cell hf 1
       have q7 := blk_cell hf 2
       refine bodyPost_ret (v := .tuple #[.agg #[.int .i64 2, .string ⟨#[]⟩, .slice none 0 0, .slice none 0 0, .int .i64 (i : Int)], .int .i64 (k : Int), faultV (2) ((k : Int))]) (by simp [results, Try.results50, go_sem, faultV, q0, q1, q2, q3, q4, q5, q6, q7]) rfl ?_
       exact ⟨below_eight HB.out (Nat.le_refl _) (by omega) (.int .i64 2) (.string ⟨#[]⟩) (.slice none 0 0) (.slice none 0 0) (.int .i64 (i : Int)) (.int .i64 2) (.int .i64 (k : Int)) (.int .i64 0), _, _, _, i, k, _, _, rfl, ⟨none, 0, 0, none, 0, 0, ⟨[], []⟩, rfl, lit_none _ _⟩, Nat.zero_le _, .inl (by decide), fun _ _ _ h => by cases h⟩
      ·have d32 : decide ((n : Int) < 32) = false := decide_eq_false (by omega)
       by_cases h127 : n = 127
       ·have b127 : ((n : Int) == 127) = true := beq_iff_eq.2 (by omega)
        clear h127
        go_wp2
        obtain ⟨hr, hf⟩ := eight_res HRES.out HFB.out (by omega) (.int .i64 2) (.string ⟨#[]⟩) (.slice none 0 0) (.slice none 0 0) (.int .i64 (i : Int)) (.int .i64 2) (.int .i64 (k : Int)) (.int .i64 0)
        unfold eightSet fiveSet at hr hf
        have q0 := blk_cell hr 0
        have q1 := blk_cell hr 1
        have q2 := blk_cell hr 2
        have q3 := blk_cell hr 3
        have q4 := blk_cell hr 4
        have q5 := blk_cell hf 0
        have q6 := blk_cell hf 1
        have q7 := blk_cell hf 2
        refine bodyPost_ret (v := .tuple #[.agg #[.int .i64 2, .string ⟨#[]⟩, .slice none 0 0, .slice none 0 0, .int .i64 (i : Int)], .int .i64 (k : Int), faultV (2) ((k : Int))]) (by simp [results, Try.results50, go_sem, faultV, q0, q1, q2, q3, q4, q5, q6, q7]) rfl ?_
        exact ⟨below_eight HB.out (Nat.le_refl _) (by omega) (.int .i64 2) (.string ⟨#[]⟩) (.slice none 0 0) (.slice none 0 0) (.int .i64 (i : Int)) (.int .i64 2) (.int .i64 (k : Int)) (.int .i64 0), _, _, _, i, k, _, _, rfl, ⟨none, 0, 0, none, 0, 0, ⟨[], []⟩, rfl, lit_none _ _⟩, Nat.zero_le _, .inl (by decide), fun _ _ _ h => by cases h⟩
       ·have b127 : ((n : Int) == 127) = false := beq_eq_false_iff_ne.2 (by omega)
        have hwk : IntKind.i64.wrap ((k : Int) + (kk : Int)) = ((k + kk : Nat) : Int) := (wraps_i64 _ (by omega) (by omega)).trans (by omega)
        clear h34 h92 h32 h127
        go_wp2_with
         (at_builtin; refine wpList_append_lies _ rfl (.tmp 61) (.tmp 63) 96 rfl (w.heap.size + 3) 2 i2 _ 1 8 Try.underlying96 hi2 hz2 hs2 hb2 rfl (by omega) u8 acc.length (nums .i64 acc) rfl (HOWN.out.alloc _)
             ⟨wr.heap.size, 0, none⟩ 1 1 (nums .i64 [(n : Int)]) rfl rfl (World.news_of_block (cs := (nums .i64 [(n : Int)]).toArray) (t := 2) (fr := (0, 0)) (heap_alloc_new wr _)) nums_one (by omega) (by unfold maxLen; omega) (by omega) (by simp; omega) (wr.heap.size + 1) (by simp) ?_; intro gg cap w2 hown2 hgrow hat2 hlt2; have HOWN2 := Lib.hid (show w2.ownsRow (w.heap.size + 3) 2 1 (.slice (some ⟨gg, 0, none⟩) (acc.length + 1) cap) (acc.length + 1) (nums .i64 (acc ++ [(n : Int)])) by rw [nums_append]; exact hown2); have HB2 := Lib.hid (((HB.out.alloc HB.out.size _).grown hgrow (by have := HB.out.size; simp; omega) (fun b hb => by have := (HOWN.out.lt b hb).1; omega)) : Below w.heap.size w w2); have HRES2 := Lib.hid (blk_grown (blk_alloc HRES.out (Obj.cells (nums .i64 [(n : Int)]).toArray 2)) hgrow (own_ne HOWN.out (by omega))); have HFB2 := Lib.hid (blk_grown (blk_alloc HFB.out (Obj.cells (nums .i64 [(n : Int)]).toArray 2)) hgrow (own_ne HOWN.out (by omega))); have HTK2 := Lib.hid (blk_grown (blk_alloc HTK.out (Obj.cells (nums .i64 [(n : Int)]).toArray 2)) hgrow (own_ne HOWN.out (by omega))))

        go_roundw
        case rel => exact ⟨k + kk, acc ++ [(n : Int)], trivial, by go_num, by omega, by omega, by rw [List.length_append]; simp; omega, HB2.out, HRES2.out, HFB2.out, HTK2.out, by rw [show (acc ++ [(n : Int)]).length = acc.length + 1 by simp]; exact HOWN2.out⟩
        case measure => simp [intOf]; omega
  ·obtain rfl : k = s.size := by omega
   have d1 : decide ((s.size : Int) < (s.size : Int)) = false := decide_eq_false (by omega)
   have hres0 := blk_lt HRES0.out
   have hfb0 := blk_lt HFB0.out
   have htk0 := blk_lt HTK0.out
   have t0 := blk_cell HTK0.out 0
   have tf0 := blk_frozen HTK0.out 0
   have t1 := blk_cell HTK0.out 1
   have tf1 := blk_frozen HTK0.out 1
   have t2 := blk_cell HTK0.out 2
   have tf2 := blk_frozen HTK0.out 2
   have t3 := blk_cell HTK0.out 3
   have tf3 := blk_frozen HTK0.out 3
   have t4 := blk_cell HTK0.out 4
   have tf4 := blk_frozen HTK0.out 4
   have r0 := blk_cell HRES0.out 0
   have rf0 := blk_frozen HRES0.out 0
   have r1 := blk_cell HRES0.out 1
   have rf1 := blk_frozen HRES0.out 1
   have r2 := blk_cell HRES0.out 2
   have rf2 := blk_frozen HRES0.out 2
   have r3 := blk_cell HRES0.out 3
   have rf3 := blk_frozen HRES0.out 3
   have r4 := blk_cell HRES0.out 4
   have rf4 := blk_frozen HRES0.out 4
   have g0 := blk_cell HFB0.out 0
   have gf0 := blk_frozen HFB0.out 0
   have g1 := blk_cell HFB0.out 1
   have gf1 := blk_frozen HFB0.out 1
   have g2 := blk_cell HFB0.out 2
   have gf2 := blk_frozen HFB0.out 2
   go_wp2
   obtain ⟨hr, hf⟩ := eight_res HRES0.out HFB0.out (by omega) (.int .i64 2) (.string ⟨#[]⟩) (.slice none 0 0) (.slice none 0 0) (.int .i64 (i : Int)) (.int .i64 2) (.int .i64 (i : Int)) (.int .i64 0)
   unfold eightSet fiveSet at hr hf
   have q0 := blk_cell hr 0
   have q1 := blk_cell hr 1
   have q2 := blk_cell hr 2
   have q3 := blk_cell hr 3
   have q4 := blk_cell hr 4
   have q5 := blk_cell hf 0
   have q6 := blk_cell hf 1
   have q7 := blk_cell hf 2
   refine bodyPost_ret (v := .tuple #[.agg #[.int .i64 2, .string ⟨#[]⟩, .slice none 0 0, .slice none 0 0, .int .i64 (i : Int)], .int .i64 (s.size : Int), faultV (2) ((i : Int))]) (by simp [results, Try.results50, go_sem, faultV, q0, q1, q2, q3, q4, q5, q6, q7]) rfl ?_
   exact ⟨below_eight HB0.out (Nat.le_refl _) (by omega) (.int .i64 2) (.string ⟨#[]⟩) (.slice none 0 0) (.slice none 0 0) (.int .i64 (i : Int)) (.int .i64 2) (.int .i64 (i : Int)) (.int .i64 0), _, _, _, i, s.size, _, _, rfl, ⟨none, 0, 0, none, 0, 0, ⟨[], []⟩, rfl, lit_none _ _⟩, Nat.zero_le _, .inl (by decide), fun _ _ _ h => by cases h⟩
end Go.Proofs.Ytollglblkbjgjaa
namespace Go.Proofs.Ytollglblkbjgjaa
open Go.RowKit

set_option maxRecDepth 100000 in
set_option maxHeartbeats 16000000 in
theorem one27_any (s : ByteArray) (i : Nat) (w : World) (hs : s.size ≤ 1000000) (hi : i < s.size) : Calls Try.prog 27 #[.string s, .int .i64 (i : Int)] w (WordTo none s i w) := by
 have HB := Lib.hid ((((Below.refl _ w).alloc (Nat.le_refl _) (.cells #[.int .i64 0, .string ⟨#[]⟩, .slice none 0 0, .slice none 0 0, .int .i64 0] 43)).alloc (by simp) (.cells #[.int .i64 0, .int .i64 0, .int .i64 0] 28)).alloc (by simp; omega) (.cells #[.int .i64 2, .int .i64 (i : Int), .int .i64 0] 28))
 have HRES := Lib.hid (blk_alloc (blk_alloc (blk_new w (.cells #[.int .i64 0, .string ⟨#[]⟩, .slice none 0 0, .slice none 0 0, .int .i64 0] 43)) (.cells #[.int .i64 0, .int .i64 0, .int .i64 0] 28)) (.cells #[.int .i64 2, .int .i64 (i : Int), .int .i64 0] 28))
 have hfb := blk_alloc (blk_new (w.alloc (.cells #[.int .i64 0, .string ⟨#[]⟩, .slice none 0 0, .slice none 0 0, .int .i64 0] 43)) (.cells #[.int .i64 0, .int .i64 0, .int .i64 0] 28)) (.cells #[.int .i64 2, .int .i64 (i : Int), .int .i64 0] 28)
 rw [show (w.alloc (.cells #[.int .i64 0, .string ⟨#[]⟩, .slice none 0 0, .slice none 0 0, .int .i64 0] 43)).heap.size = w.heap.size + 1 by simp] at hfb
 have HFB := Lib.hid hfb
 have hbd := blk_new ((w.alloc (.cells #[.int .i64 0, .string ⟨#[]⟩, .slice none 0 0, .slice none 0 0, .int .i64 0] 43)).alloc (.cells #[.int .i64 0, .int .i64 0, .int .i64 0] 28)) (.cells #[.int .i64 2, .int .i64 (i : Int), .int .i64 0] 28)
 rw [show ((w.alloc (.cells #[.int .i64 0, .string ⟨#[]⟩, .slice none 0 0, .slice none 0 0, .int .i64 0] 43)).alloc (.cells #[.int .i64 0, .int .i64 0, .int .i64 0] 28)).heap.size = w.heap.size + 2 by simp] at hbd
 have HBD := Lib.hid hbd
 clear hfb hbd
 have hbg := bt_get s i hi
 have hj0 : (0 : Int) ≤ (i : Int) := by omega
 have hj1 : (i : Int) < (s.size : Int) := by omega
 go_enter Try.func27, Try.ntmps27
 go_wp2_with fail
 refine (sign_at s i _ hs (Nat.le_of_lt hi)).mono ?_
 rintro e w1 ⟨rfl, hb1⟩
 have HB1 := Lib.hid (below_then HB.out HB.out.size hb1)
 have HRES1 := Lib.hid (blk_below HRES.out hb1 (blk_lt HRES.out))
 have HFB1 := Lib.hid (blk_below HFB.out hb1 (blk_lt HFB.out))
 have HBD1 := Lib.hid (blk_below HBD.out hb1 (blk_lt HBD.out))
 clear hb1 HB HRES HFB HBD
 have hres1 := blk_lt HRES1.out
 have hfb1 := blk_lt HFB1.out
 have hb0 := HB1.out.size
 rcases sign_cases hi with hsc | ⟨sn, sk, hsc, hk1, hk4, hks, -⟩
 ·rw [hsc]
  clear hsc
  have r0 := blk_cell HRES1.out 0
  have rf0 := blk_frozen HRES1.out 0
  have r1 := blk_cell HRES1.out 1
  have rf1 := blk_frozen HRES1.out 1
  have r2 := blk_cell HRES1.out 2
  have rf2 := blk_frozen HRES1.out 2
  have r3 := blk_cell HRES1.out 3
  have rf3 := blk_frozen HRES1.out 3
  have r4 := blk_cell HRES1.out 4
  have rf4 := blk_frozen HRES1.out 4
  have g0 := blk_cell HFB1.out 0
  have gf0 := blk_frozen HFB1.out 0
  have g1 := blk_cell HFB1.out 1
  have gf1 := blk_frozen HFB1.out 1
  have g2 := blk_cell HFB1.out 2
  have gf2 := blk_frozen HFB1.out 2
  go_wp2_with fail
  obtain ⟨hr', hf'⟩ := eight_res HRES1.out HFB1.out (by omega) (.int .i64 0) (.string ⟨#[]⟩) (.slice none 0 0) (.slice none 0 0) (.int .i64 0) (.int .i64 3) (.int .i64 (i : Int)) (.int .i64 0)
  have hr := hr'
  have hf := hf'
  clear hr' hf'
  unfold eightSet fiveSet at hr hf
  have q0 := blk_cell hr 0
  have q1 := blk_cell hr 1
  have q2 := blk_cell hr 2
  have q3 := blk_cell hr 3
  have q4 := blk_cell hr 4
  have q5 := blk_cell hf 0
  have q6 := blk_cell hf 1
  have q7 := blk_cell hf 2
  refine bodyPost_ret (v := .tuple #[.agg #[.int .i64 0, .string ⟨#[]⟩, .slice none 0 0, .slice none 0 0, .int .i64 0], .int .i64 (i : Int), faultV (3) ((i : Int))]) (by simp [results, Try.results27, go_sem, faultV, q0, q1, q2, q3, q4, q5, q6, q7]) rfl ?_
  exact ⟨below_eight HB1.out (Nat.le_refl _) (by omega) (.int .i64 0) (.string ⟨#[]⟩) (.slice none 0 0) (.slice none 0 0) (.int .i64 0) (.int .i64 3) (.int .i64 (i : Int)) (.int .i64 0), _, 0, ⟨#[]⟩, 0, i, _, _, rfl, ⟨none, 0, 0, none, 0, 0, ⟨[], []⟩, rfl, lit_none _ _⟩, Nat.zero_le _, .inl (by decide), fun _ _ _ h => by cases h⟩
 ·rw [hsc]
  have bk : ((sk : Int) == 0) = false := beq_eq_false_iff_ne.2 (by omega)
  clear hsc
  go_wp2_with fail
  have HBG := Lib.hid (begins48_any s i w1 hs (Nat.le_of_lt hi))
  cases hbn : kbeg s i with
  | true =>
   rw [hbn] at HBG
   refine HBG.out.mono ?_
   rintro e wq ⟨rfl, hww⟩
   obtain rfl : w1 = wq := hww.symm
   go_wp2_with fail
   refine (numbers49_any s i w1 hs (Nat.le_of_lt hi) (kbeg_dig hbn)).mono ?_
   rintro e w2 ⟨hb2, v, to, bad, rfl, htv, hbad, hst⟩
   obtain ⟨Az, nz, cz, Bz, mz, dz, tz, rfl, hlz⟩ := htv
   have HLZ := Lib.hid hlz
   have HB2 := Lib.hid (below_then HB1.out HB1.out.size hb2)
   have HRES2 := Lib.hid (blk_below HRES1.out hb2 (blk_lt HRES1.out))
   have HFB2 := Lib.hid (blk_below HFB1.out hb2 (blk_lt HFB1.out))
   have HBD2 := Lib.hid (blk_below HBD1.out hb2 (blk_lt HBD1.out))
   have hb12 := hb2.size
   clear hb2 hlz hbn hst HRES1 HFB1 HB1 HBD1 hb0
   have hb0 := HB2.out.size
   have hres2 := blk_lt HRES2.out
   have hfb2 := blk_lt HFB2.out
   have r0 := blk_cell HRES2.out 0
   have rf0 := blk_frozen HRES2.out 0
   have r1 := blk_cell HRES2.out 1
   have rf1 := blk_frozen HRES2.out 1
   have r2 := blk_cell HRES2.out 2
   have rf2 := blk_frozen HRES2.out 2
   have r3 := blk_cell HRES2.out 3
   have rf3 := blk_frozen HRES2.out 3
   have r4 := blk_cell HRES2.out 4
   have rf4 := blk_frozen HRES2.out 4
   have g0 := blk_cell HFB2.out 0
   have gf0 := blk_frozen HFB2.out 0
   have g1 := blk_cell HFB2.out 1
   have gf1 := blk_frozen HFB2.out 1
   have g2 := blk_cell HFB2.out 2
   have gf2 := blk_frozen HFB2.out 2
   rcases hbad with hbad | ⟨rfl, hto, hto2⟩
   ·have d1 : decide ((0 : Int) ≤ bad) = true := decide_eq_true hbad
    go_wp2_with fail
    obtain ⟨hr', hf'⟩ := eight_res HRES2.out HFB2.out (by omega) (.int .i64 1) (.string ⟨#[]⟩) (.slice Az nz cz) (.slice Bz mz dz) (.int .i64 (i : Int)) (.int .i64 2) (.int .i64 bad) (.int .i64 0)
    have hr := blk_alloc (hr') (.cells #[.int .i64 1, .string ⟨#[]⟩, .slice Az nz cz, .slice Bz mz dz, .int .i64 (i : Int)] 43)
    have hf := blk_alloc (hf') (.cells #[.int .i64 1, .string ⟨#[]⟩, .slice Az nz cz, .slice Bz mz dz, .int .i64 (i : Int)] 43)
    clear hr' hf'
    unfold eightSet fiveSet at hr hf
    have q0 := blk_cell hr 0
    have q1 := blk_cell hr 1
    have q2 := blk_cell hr 2
    have q3 := blk_cell hr 3
    have q4 := blk_cell hr 4
    have q5 := blk_cell hf 0
    have q6 := blk_cell hf 1
    have q7 := blk_cell hf 2
    refine bodyPost_ret (v := .tuple #[.agg #[.int .i64 1, .string ⟨#[]⟩, .slice Az nz cz, .slice Bz mz dz, .int .i64 (i : Int)], .int .i64 (to : Int), faultV (2) (bad)]) (by simp [results, Try.results27, go_sem, faultV, q0, q1, q2, q3, q4, q5, q6, q7]) rfl ?_
    exact ⟨(below_eight HB2.out (Nat.le_refl _) (by omega) (.int .i64 1) (.string ⟨#[]⟩) (.slice Az nz cz) (.slice Bz mz dz) (.int .i64 (i : Int)) (.int .i64 2) (.int .i64 bad) (.int .i64 0)).alloc (by simpa [World.setCell, eightSet, fiveSet] using hb0) _, _, 1, ⟨#[]⟩, (i), to, _, _, rfl, ⟨_, _, _, _, _, _, _, rfl, ((HLZ.out.eight (fun b (hb : w1.heap.size ≤ b) => by omega) (fun b (hb : w1.heap.size ≤ b) => by omega) _ _ _ _ _ _ _ _).below ((Below.refl _ _).alloc (Nat.le_refl _) _)).from (fun b (hb : w1.heap.size ≤ b) => by omega)⟩, Nat.zero_le _, .inl (by decide), fun _ _ _ h => by cases h⟩
   ·go_wp2_with fail
    obtain ⟨hr', hf'⟩ := eight_res HRES2.out HFB2.out (by omega) (.int .i64 1) (.string ⟨#[]⟩) (.slice Az nz cz) (.slice Bz mz dz) (.int .i64 (i : Int)) (.int .i64 0) (.int .i64 0) (.int .i64 0)
    have hr := blk_alloc (hr') (.cells #[.int .i64 1, .string ⟨#[]⟩, .slice Az nz cz, .slice Bz mz dz, .int .i64 (i : Int)] 43)
    have hf := blk_alloc (hf') (.cells #[.int .i64 1, .string ⟨#[]⟩, .slice Az nz cz, .slice Bz mz dz, .int .i64 (i : Int)] 43)
    clear hr' hf'
    unfold eightSet fiveSet at hr hf
    have q0 := blk_cell hr 0
    have q1 := blk_cell hr 1
    have q2 := blk_cell hr 2
    have q3 := blk_cell hr 3
    have q4 := blk_cell hr 4
    have q5 := blk_cell hf 0
    have q6 := blk_cell hf 1
    have q7 := blk_cell hf 2
    refine bodyPost_ret (v := .tuple #[.agg #[.int .i64 1, .string ⟨#[]⟩, .slice Az nz cz, .slice Bz mz dz, .int .i64 (i : Int)], .int .i64 (to : Int), faultV (0) (0)]) (by simp [results, Try.results27, go_sem, faultV, q0, q1, q2, q3, q4, q5, q6, q7]) rfl ?_
    exact ⟨(below_eight HB2.out (Nat.le_refl _) (by omega) (.int .i64 1) (.string ⟨#[]⟩) (.slice Az nz cz) (.slice Bz mz dz) (.int .i64 (i : Int)) (.int .i64 0) (.int .i64 0) (.int .i64 0)).alloc (by simpa [World.setCell, eightSet, fiveSet] using hb0) _, _, 1, ⟨#[]⟩, (i), to, _, _, rfl, ⟨_, _, _, _, _, _, _, rfl, ((HLZ.out.eight (fun b (hb : w1.heap.size ≤ b) => by omega) (fun b (hb : w1.heap.size ≤ b) => by omega) _ _ _ _ _ _ _ _).below ((Below.refl _ _).alloc (Nat.le_refl _) _)).from (fun b (hb : w1.heap.size ≤ b) => by omega)⟩, Nat.zero_le _, .inr ⟨rfl, hto, hto2⟩, fun _ _ _ h => by cases h⟩
  | false =>
   rw [hbn] at HBG
   refine HBG.out.mono ?_
   rintro e wq ⟨rfl, hww⟩
   obtain rfl : w1 = wq := hww.symm
   clear hbn HBG
   cases h39 : (bt s i == 34) with
   | true =>
    have r0 := blk_cell HRES1.out 0
    have rf0 := blk_frozen HRES1.out 0
    have r1 := blk_cell HRES1.out 1
    have rf1 := blk_frozen HRES1.out 1
    have r2 := blk_cell HRES1.out 2
    have rf2 := blk_frozen HRES1.out 2
    have r3 := blk_cell HRES1.out 3
    have rf3 := blk_frozen HRES1.out 3
    have r4 := blk_cell HRES1.out 4
    have rf4 := blk_frozen HRES1.out 4
    have g0 := blk_cell HFB1.out 0
    have gf0 := blk_frozen HFB1.out 0
    have g1 := blk_cell HFB1.out 1
    have gf1 := blk_frozen HFB1.out 1
    have g2 := blk_cell HFB1.out 2
    have gf2 := blk_frozen HFB1.out 2
    go_wp2_with fail
    refine (quoted50_any s i w1 hs hi).mono ?_
    rintro e w2 ⟨hb2, v, qk, qx, qa, to, er, at_, rfl, htv, hxs, hbad, -⟩
    obtain ⟨Az, nz, cz, Bz, mz, dz, tz, rfl, hlz⟩ := htv
    have HLZ := Lib.hid hlz
    have HB2 := Lib.hid (below_then HB1.out HB1.out.size hb2)
    have HRES2 := Lib.hid (blk_below HRES1.out hb2 (blk_lt HRES1.out))
    have HFB2 := Lib.hid (blk_below HFB1.out hb2 (blk_lt HFB1.out))
    have HBD2 := Lib.hid (blk_below HBD1.out hb2 (blk_lt HBD1.out))
    have HBAD := Lib.hid hbad
    have hb12 := hb2.size
    clear hb2 hlz hbad HRES1 HFB1 HB1 HBD1 hb0 r0 rf0 r1 rf1 r2 rf2 r3 rf3 r4 rf4 g0 gf0 g1 gf1 g2 gf2
    have hb0 := HB2.out.size
    have hres2 := blk_lt HRES2.out
    have hfb2 := blk_lt HFB2.out
    unfold faultV
    have r0 := blk_cell HRES2.out 0
    have rf0 := blk_frozen HRES2.out 0
    have r1 := blk_cell HRES2.out 1
    have rf1 := blk_frozen HRES2.out 1
    have r2 := blk_cell HRES2.out 2
    have rf2 := blk_frozen HRES2.out 2
    have r3 := blk_cell HRES2.out 3
    have rf3 := blk_frozen HRES2.out 3
    have r4 := blk_cell HRES2.out 4
    have rf4 := blk_frozen HRES2.out 4
    have g0 := blk_cell HFB2.out 0
    have gf0 := blk_frozen HFB2.out 0
    have g1 := blk_cell HFB2.out 1
    have gf1 := blk_frozen HFB2.out 1
    have g2 := blk_cell HFB2.out 2
    have gf2 := blk_frozen HFB2.out 2
    go_wp2_with fail
    obtain ⟨hr', hf'⟩ := eight_res HRES2.out HFB2.out (by omega) (.int .i64 qk) (.string qx) (.slice Az nz cz) (.slice Bz mz dz) (.int .i64 (qa : Int)) (.int .i64 er) (.int .i64 at_) (.int .i64 0)
    have hr := hr'
    have hf := hf'
    clear hr' hf'
    unfold eightSet fiveSet at hr hf
    have q0 := blk_cell hr 0
    have q1 := blk_cell hr 1
    have q2 := blk_cell hr 2
    have q3 := blk_cell hr 3
    have q4 := blk_cell hr 4
    have q5 := blk_cell hf 0
    have q6 := blk_cell hf 1
    have q7 := blk_cell hf 2
    refine bodyPost_ret (v := .tuple #[.agg #[.int .i64 qk, .string qx, .slice Az nz cz, .slice Bz mz dz, .int .i64 (qa : Int)], .int .i64 (to : Int), faultV (er) (at_)]) (by simp [results, Try.results27, go_sem, faultV, q0, q1, q2, q3, q4, q5, q6, q7]) rfl ?_
    exact ⟨below_eight HB2.out (Nat.le_refl _) (by omega) (.int .i64 qk) (.string qx) (.slice Az nz cz) (.slice Bz mz dz) (.int .i64 (qa : Int)) (.int .i64 er) (.int .i64 at_) (.int .i64 0), _, qk, qx, (qa), to, _, _, rfl, ⟨_, _, _, _, _, _, _, rfl, (HLZ.out.eight (fun b (hb : w1.heap.size ≤ b) => by omega) (fun b (hb : w1.heap.size ≤ b) => by omega) _ _ _ _ _ _ _ _).from (fun b (hb : w1.heap.size ≤ b) => by omega)⟩, hxs, HBAD.out, fun _ _ _ h => by cases h⟩
   | false =>
    have HLT := Lib.hid (fun (c : Int) (w : World) => small51_any c w)
    cases hl : low26 (bt s i) with
    | true =>
     have HL := Lib.hid hl
     clear hl
     go_wp2_with fail
     refine (HLT.out _ _).mono ?_
     rintro e wq ⟨rfl, hww⟩
     obtain rfl : w1 = wq := hww.symm
     rw [HL.out]
     go_wp2_with fail
     refine (word52_any s i w1 hs hi HL.out).mono ?_
     rintro e w2 ⟨hb2, wk, wx, to, ok, rfl, hxs, hto, hto2⟩
     have HB2 := Lib.hid (below_then HB1.out HB1.out.size hb2)
     have HRES2 := Lib.hid (blk_below HRES1.out hb2 (blk_lt HRES1.out))
     have HFB2 := Lib.hid (blk_below HFB1.out hb2 (blk_lt HFB1.out))
     have HBD2 := Lib.hid (blk_below HBD1.out hb2 (blk_lt HBD1.out))
     clear hb2 HRES1 HFB1 HB1 HBD1 hb0
     have hb0 := HB2.out.size
     have hres2 := blk_lt HRES2.out
     have hfb2 := blk_lt HFB2.out
     have HXS := Lib.hid hxs
     clear hxs
     cases ok with
     | true =>
      have r0 := blk_cell HRES2.out 0
      have rf0 := blk_frozen HRES2.out 0
      have r1 := blk_cell HRES2.out 1
      have rf1 := blk_frozen HRES2.out 1
      have r2 := blk_cell HRES2.out 2
      have rf2 := blk_frozen HRES2.out 2
      have r3 := blk_cell HRES2.out 3
      have rf3 := blk_frozen HRES2.out 3
      have r4 := blk_cell HRES2.out 4
      have rf4 := blk_frozen HRES2.out 4
      have g0 := blk_cell HFB2.out 0
      have gf0 := blk_frozen HFB2.out 0
      have g1 := blk_cell HFB2.out 1
      have gf1 := blk_frozen HFB2.out 1
      have g2 := blk_cell HFB2.out 2
      have gf2 := blk_frozen HFB2.out 2
      go_wp2_with fail
      obtain ⟨hr', hf'⟩ := eight_res HRES2.out HFB2.out (by omega) (.int .i64 wk) (.string wx) (.slice none 0 0) (.slice none 0 0) (.int .i64 (i : Int)) (.int .i64 0) (.int .i64 0) (.int .i64 0)
      have hr := blk_alloc (hr') (.cells #[.int .i64 wk, .string wx, .slice none 0 0, .slice none 0 0, .int .i64 (i : Int)] 43)
      have hf := blk_alloc (hf') (.cells #[.int .i64 wk, .string wx, .slice none 0 0, .slice none 0 0, .int .i64 (i : Int)] 43)
      clear hr' hf'
      unfold eightSet fiveSet at hr hf
      have q0 := blk_cell hr 0
      have q1 := blk_cell hr 1
      have q2 := blk_cell hr 2
      have q3 := blk_cell hr 3
      have q4 := blk_cell hr 4
      have q5 := blk_cell hf 0
      have q6 := blk_cell hf 1
      have q7 := blk_cell hf 2
      refine bodyPost_ret (v := .tuple #[.agg #[.int .i64 wk, .string wx, .slice none 0 0, .slice none 0 0, .int .i64 (i : Int)], .int .i64 (to : Int), faultV (0) (0)]) (by simp [results, Try.results27, go_sem, faultV, q0, q1, q2, q3, q4, q5, q6, q7]) rfl ?_
      exact ⟨(below_eight HB2.out (Nat.le_refl _) (by omega) (.int .i64 wk) (.string wx) (.slice none 0 0) (.slice none 0 0) (.int .i64 (i : Int)) (.int .i64 0) (.int .i64 0) (.int .i64 0)).alloc (by simpa [World.setCell, eightSet, fiveSet] using hb0) _, _, wk, wx, (i), to, _, _, rfl, ⟨none, 0, 0, none, 0, 0, ⟨[], []⟩, rfl, lit_none _ _⟩, HXS.out, .inr ⟨rfl, hto, hto2⟩, fun _ _ _ h => by cases h⟩
     | false =>
      have r0 := blk_cell HRES2.out 0
      have rf0 := blk_frozen HRES2.out 0
      have r1 := blk_cell HRES2.out 1
      have rf1 := blk_frozen HRES2.out 1
      have r2 := blk_cell HRES2.out 2
      have rf2 := blk_frozen HRES2.out 2
      have r3 := blk_cell HRES2.out 3
      have rf3 := blk_frozen HRES2.out 3
      have r4 := blk_cell HRES2.out 4
      have rf4 := blk_frozen HRES2.out 4
      have g0 := blk_cell HFB2.out 0
      have gf0 := blk_frozen HFB2.out 0
      have g1 := blk_cell HFB2.out 1
      have gf1 := blk_frozen HFB2.out 1
      have g2 := blk_cell HFB2.out 2
      have gf2 := blk_frozen HFB2.out 2
      go_wp2_with fail
      have HB3 := Lib.hid (HB2.out.alloc hb0 (.cells #[.int .i64 wk, .string wx, .slice none 0 0, .slice none 0 0, .int .i64 (i : Int)] 43))
      have HRES3 := Lib.hid (blk_alloc HRES2.out (.cells #[.int .i64 wk, .string wx, .slice none 0 0, .slice none 0 0, .int .i64 (i : Int)] 43))
      have HFB3 := Lib.hid (blk_alloc HFB2.out (.cells #[.int .i64 wk, .string wx, .slice none 0 0, .slice none 0 0, .int .i64 (i : Int)] 43))
      have HBD3 := Lib.hid (blk_alloc HBD2.out (.cells #[.int .i64 wk, .string wx, .slice none 0 0, .slice none 0 0, .int .i64 (i : Int)] 43))
      have HTK3 := Lib.hid (blk_new w2 (.cells #[.int .i64 wk, .string wx, .slice none 0 0, .slice none 0 0, .int .i64 (i : Int)] 43))
      clear r0 rf0 r1 rf1 r2 rf2 r3 rf3 r4 rf4 g0 gf0 g1 gf1 g2 gf2 HB2 HRES2 HFB2 HBD2
      obtain ⟨W3, hW3⟩ : ∃ W, w2.alloc (.cells #[.int .i64 wk, .string wx, .slice none 0 0, .slice none 0 0, .int .i64 (i : Int)] 43) = W := ⟨_, rfl⟩
      rw [hW3] at HB3 HRES3 HFB3 HBD3 HTK3 ⊢
      clear hW3
      generalize w2.heap.size = bT at *
      have hres3 := blk_lt HRES3.out
      have hfb3 := blk_lt HFB3.out
      have hbd3 := blk_lt HBD3.out
      have htk3 := blk_lt HTK3.out
      have hb3 := HB3.out.size
      have r0 := blk_cell HRES3.out 0
      have rf0 := blk_frozen HRES3.out 0
      have r1 := blk_cell HRES3.out 1
      have rf1 := blk_frozen HRES3.out 1
      have r2 := blk_cell HRES3.out 2
      have rf2 := blk_frozen HRES3.out 2
      have r3 := blk_cell HRES3.out 3
      have rf3 := blk_frozen HRES3.out 3
      have r4 := blk_cell HRES3.out 4
      have rf4 := blk_frozen HRES3.out 4
      have g0 := blk_cell HFB3.out 0
      have gf0 := blk_frozen HFB3.out 0
      have g1 := blk_cell HFB3.out 1
      have gf1 := blk_frozen HFB3.out 1
      have g2 := blk_cell HFB3.out 2
      have gf2 := blk_frozen HFB3.out 2
      have t0 := blk_cell HTK3.out 0
      have tf0 := blk_frozen HTK3.out 0
      have t1 := blk_cell HTK3.out 1
      have tf1 := blk_frozen HTK3.out 1
      have t2 := blk_cell HTK3.out 2
      have tf2 := blk_frozen HTK3.out 2
      have t3 := blk_cell HTK3.out 3
      have tf3 := blk_frozen HTK3.out 3
      have t4 := blk_cell HTK3.out 4
      have tf4 := blk_frozen HTK3.out 4
      have d0 := blk_cell HBD3.out 0
      have df0 := blk_frozen HBD3.out 0
      have d1 := blk_cell HBD3.out 1
      have df1 := blk_frozen HBD3.out 1
      have d2 := blk_cell HBD3.out 2
      have df2 := blk_frozen HBD3.out 2
      go_region
      all_goals
       go_wp2
       obtain ⟨hr', hf'⟩ := eight_res HRES3.out HFB3.out (by omega) (.int .i64 wk) (.string wx) (.slice none 0 0) (.slice none 0 0) (.int .i64 (i : Int)) (.int .i64 2) (.int .i64 (i : Int)) (.int .i64 0)
       have hr := blk_drew hr'
       have hf := blk_drew hf'
       clear hr' hf'
       unfold eightSet fiveSet at hr hf
       have q0 := blk_cell hr 0
       have q1 := blk_cell hr 1
       have q2 := blk_cell hr 2
       have q3 := blk_cell hr 3
       have q4 := blk_cell hr 4
       have q5 := blk_cell hf 0
       have q6 := blk_cell hf 1
       have q7 := blk_cell hf 2
       refine bodyPost_ret (v := .tuple #[.agg #[.int .i64 wk, .string wx, .slice none 0 0, .slice none 0 0, .int .i64 (i : Int)], .int .i64 (to : Int), faultV (2) ((i : Int))]) (by simp [results, Try.results27, go_sem, faultV, q0, q1, q2, q3, q4, q5, q6, q7]) rfl ?_
       exact ⟨(below_eight HB3.out (Nat.le_refl _) (by omega) (.int .i64 wk) (.string wx) (.slice none 0 0) (.slice none 0 0) (.int .i64 (i : Int)) (.int .i64 2) (.int .i64 (i : Int)) (.int .i64 0)).drew, _, wk, wx, (i), to, _, _, rfl, ⟨none, 0, 0, none, 0, 0, ⟨[], []⟩, rfl, lit_none _ _⟩, HXS.out, .inl (by decide), fun _ _ _ h => by cases h⟩
    | false =>
     have HL := Lib.hid hl
     clear hl
     go_wp2_with fail
     refine (HLT.out _ _).mono ?_
     rintro e wq ⟨rfl, hww⟩
     obtain rfl : w1 = wq := hww.symm
     rw [HL.out]
     go_wp2_with fail
     refine (fixed53_any s i w1 hs (Nat.le_of_lt hi)).mono ?_
     rintro e w2 ⟨hb2, fk, fx, fa, ok, rfl, hxs, hok⟩
     have HB2 := Lib.hid (below_then HB1.out HB1.out.size hb2)
     have HRES2 := Lib.hid (blk_below HRES1.out hb2 (blk_lt HRES1.out))
     have HFB2 := Lib.hid (blk_below HFB1.out hb2 (blk_lt HFB1.out))
     have HBD2 := Lib.hid (blk_below HBD1.out hb2 (blk_lt HBD1.out))
     clear hb2 HRES1 HFB1 HB1 HBD1 hb0
     have hb0 := HB2.out.size
     have hres2 := blk_lt HRES2.out
     have hfb2 := blk_lt HFB2.out
     have HXS := Lib.hid hxs
     cases ok with
     | true =>
      clear hxs
      have r0 := blk_cell HRES2.out 0
      have rf0 := blk_frozen HRES2.out 0
      have r1 := blk_cell HRES2.out 1
      have rf1 := blk_frozen HRES2.out 1
      have r2 := blk_cell HRES2.out 2
      have rf2 := blk_frozen HRES2.out 2
      have r3 := blk_cell HRES2.out 3
      have rf3 := blk_frozen HRES2.out 3
      have r4 := blk_cell HRES2.out 4
      have rf4 := blk_frozen HRES2.out 4
      have g0 := blk_cell HFB2.out 0
      have gf0 := blk_frozen HFB2.out 0
      have g1 := blk_cell HFB2.out 1
      have gf1 := blk_frozen HFB2.out 1
      have g2 := blk_cell HFB2.out 2
      have gf2 := blk_frozen HFB2.out 2
      have hok2 := hok rfl
      have hwf : IntKind.i64.wrap ((i : Int) + 1) = ((i + 1 : Nat) : Int) := (wraps_i64 _ (by omega) (by omega)).trans (by omega)
      go_wp2_with fail
      obtain ⟨hr', hf'⟩ := eight_res HRES2.out HFB2.out (by omega) (.int .i64 fk) (.string fx) (.slice none 0 0) (.slice none 0 0) (.int .i64 (fa : Int)) (.int .i64 0) (.int .i64 0) (.int .i64 0)
      have hr := blk_alloc (hr') (.cells #[.int .i64 fk, .string fx, .slice none 0 0, .slice none 0 0, .int .i64 (fa : Int)] 43)
      have hf := blk_alloc (hf') (.cells #[.int .i64 fk, .string fx, .slice none 0 0, .slice none 0 0, .int .i64 (fa : Int)] 43)
      clear hr' hf'
      unfold eightSet fiveSet at hr hf
      have q0 := blk_cell hr 0
      have q1 := blk_cell hr 1
      have q2 := blk_cell hr 2
      have q3 := blk_cell hr 3
      have q4 := blk_cell hr 4
      have q5 := blk_cell hf 0
      have q6 := blk_cell hf 1
      have q7 := blk_cell hf 2
      refine bodyPost_ret (v := .tuple #[.agg #[.int .i64 fk, .string fx, .slice none 0 0, .slice none 0 0, .int .i64 (fa : Int)], .int .i64 (i + 1 : Int), faultV (0) (0)]) (by simp [results, Try.results27, go_sem, faultV, q0, q1, q2, q3, q4, q5, q6, q7]) rfl ?_
      exact ⟨(below_eight HB2.out (Nat.le_refl _) (by omega) (.int .i64 fk) (.string fx) (.slice none 0 0) (.slice none 0 0) (.int .i64 (fa : Int)) (.int .i64 0) (.int .i64 0) (.int .i64 0)).alloc (by simpa [World.setCell, eightSet, fiveSet] using hb0) _, _, fk, fx, (fa), i + 1, _, _, rfl, ⟨none, 0, 0, none, 0, 0, ⟨[], []⟩, rfl, lit_none _ _⟩, HXS.out, .inr ⟨rfl, by omega, by omega⟩, fun _ _ _ h => by cases h⟩
     | false =>
      clear hok hxs
      have r0 := blk_cell HRES2.out 0
      have rf0 := blk_frozen HRES2.out 0
      have r1 := blk_cell HRES2.out 1
      have rf1 := blk_frozen HRES2.out 1
      have r2 := blk_cell HRES2.out 2
      have rf2 := blk_frozen HRES2.out 2
      have r3 := blk_cell HRES2.out 3
      have rf3 := blk_frozen HRES2.out 3
      have r4 := blk_cell HRES2.out 4
      have rf4 := blk_frozen HRES2.out 4
      have g0 := blk_cell HFB2.out 0
      have gf0 := blk_frozen HFB2.out 0
      have g1 := blk_cell HFB2.out 1
      have gf1 := blk_frozen HFB2.out 1
      have g2 := blk_cell HFB2.out 2
      have gf2 := blk_frozen HFB2.out 2
      go_wp2_with fail
      have HB3 := Lib.hid (HB2.out.alloc hb0 (.cells #[.int .i64 fk, .string fx, .slice none 0 0, .slice none 0 0, .int .i64 (fa : Int)] 43))
      have HRES3 := Lib.hid (blk_alloc HRES2.out (.cells #[.int .i64 fk, .string fx, .slice none 0 0, .slice none 0 0, .int .i64 (fa : Int)] 43))
      have HFB3 := Lib.hid (blk_alloc HFB2.out (.cells #[.int .i64 fk, .string fx, .slice none 0 0, .slice none 0 0, .int .i64 (fa : Int)] 43))
      have HBD3 := Lib.hid (blk_alloc HBD2.out (.cells #[.int .i64 fk, .string fx, .slice none 0 0, .slice none 0 0, .int .i64 (fa : Int)] 43))
      have HTK3 := Lib.hid (blk_new w2 (.cells #[.int .i64 fk, .string fx, .slice none 0 0, .slice none 0 0, .int .i64 (fa : Int)] 43))
      clear r0 rf0 r1 rf1 r2 rf2 r3 rf3 r4 rf4 g0 gf0 g1 gf1 g2 gf2 HB2 HRES2 HFB2 HBD2
      obtain ⟨W3, hW3⟩ : ∃ W, w2.alloc (.cells #[.int .i64 fk, .string fx, .slice none 0 0, .slice none 0 0, .int .i64 (fa : Int)] 43) = W := ⟨_, rfl⟩
      rw [hW3] at HB3 HRES3 HFB3 HBD3 HTK3 ⊢
      clear hW3
      generalize w2.heap.size = bT at *
      have hres3 := blk_lt HRES3.out
      have hfb3 := blk_lt HFB3.out
      have hbd3 := blk_lt HBD3.out
      have htk3 := blk_lt HTK3.out
      have hb3 := HB3.out.size
      have r0 := blk_cell HRES3.out 0
      have rf0 := blk_frozen HRES3.out 0
      have r1 := blk_cell HRES3.out 1
      have rf1 := blk_frozen HRES3.out 1
      have r2 := blk_cell HRES3.out 2
      have rf2 := blk_frozen HRES3.out 2
      have r3 := blk_cell HRES3.out 3
      have rf3 := blk_frozen HRES3.out 3
      have r4 := blk_cell HRES3.out 4
      have rf4 := blk_frozen HRES3.out 4
      have g0 := blk_cell HFB3.out 0
      have gf0 := blk_frozen HFB3.out 0
      have g1 := blk_cell HFB3.out 1
      have gf1 := blk_frozen HFB3.out 1
      have g2 := blk_cell HFB3.out 2
      have gf2 := blk_frozen HFB3.out 2
      have t0 := blk_cell HTK3.out 0
      have tf0 := blk_frozen HTK3.out 0
      have t1 := blk_cell HTK3.out 1
      have tf1 := blk_frozen HTK3.out 1
      have t2 := blk_cell HTK3.out 2
      have tf2 := blk_frozen HTK3.out 2
      have t3 := blk_cell HTK3.out 3
      have tf3 := blk_frozen HTK3.out 3
      have t4 := blk_cell HTK3.out 4
      have tf4 := blk_frozen HTK3.out 4
      have d0 := blk_cell HBD3.out 0
      have df0 := blk_frozen HBD3.out 0
      have d1 := blk_cell HBD3.out 1
      have df1 := blk_frozen HBD3.out 1
      have d2 := blk_cell HBD3.out 2
      have df2 := blk_frozen HBD3.out 2
      go_region
      all_goals
       go_wp2
       obtain ⟨hr', hf'⟩ := eight_res HRES3.out HFB3.out (by omega) (.int .i64 fk) (.string fx) (.slice none 0 0) (.slice none 0 0) (.int .i64 (fa : Int)) (.int .i64 2) (.int .i64 (i : Int)) (.int .i64 0)
       have hr := blk_drew hr'
       have hf := blk_drew hf'
       clear hr' hf'
       unfold eightSet fiveSet at hr hf
       have q0 := blk_cell hr 0
       have q1 := blk_cell hr 1
       have q2 := blk_cell hr 2
       have q3 := blk_cell hr 3
       have q4 := blk_cell hr 4
       have q5 := blk_cell hf 0
       have q6 := blk_cell hf 1
       have q7 := blk_cell hf 2
       refine bodyPost_ret (v := .tuple #[.agg #[.int .i64 fk, .string fx, .slice none 0 0, .slice none 0 0, .int .i64 (fa : Int)], .int .i64 (i : Int), faultV (2) ((i : Int))]) (by simp [results, Try.results27, go_sem, faultV, q0, q1, q2, q3, q4, q5, q6, q7]) rfl ?_
       exact ⟨(below_eight HB3.out (Nat.le_refl _) (by omega) (.int .i64 fk) (.string fx) (.slice none 0 0) (.slice none 0 0) (.int .i64 (fa : Int)) (.int .i64 2) (.int .i64 (i : Int)) (.int .i64 0)).drew, _, fk, fx, (fa), i, _, _, rfl, ⟨none, 0, 0, none, 0, 0, ⟨[], []⟩, rfl, lit_none _ _⟩, HXS.out, .inl (by decide), fun _ _ _ h => by cases h⟩
end Go.Proofs.Ytollglblkbjgjaa
namespace Go.Proofs.Ytollglblkbjgjaa
open Go.RowKit

set_option maxRecDepth 100000 in
set_option maxHeartbeats 16000000 in
theorem lex14_any (s : ByteArray) (w : World) : Calls Try.prog 14 #[.string s] w (LexTo none s w) := by
 obtain ⟨i0, hi0, hz0, hz1, hz2⟩ := info_parts info43
 have HRES0 := Lib.hid (blk_new w (.cells #[.int .i64 0, .int .i64 0, .int .i64 0] 28))
 have HB0 := Lib.hid ((Below.refl _ w).alloc (Nat.le_refl _) (.cells #[.int .i64 0, .int .i64 0, .int .i64 0] 28))
 by_cases hs : s.size ≤ 8192
 ·have d0 : decide ((8192 : Int) < (s.size : Int)) = false := decide_eq_false (by omega)
  have hbl0 := blanks_le (s := s) (i := 0) (Nat.zero_le _)
  have hbc : ∀ W, Calls Try.prog 23 #[.string s, .int .i64 0] W (Says (.int .i64 ((blanks s 0 : Nat) : Int)) W) := fun W => blanks_any s 0 W (by omega) (Nat.zero_le _)
  have HBC := Lib.hid hbc
  clear hbc
  go_enter Try.func14, Try.ntmps14
  go_wp2_with fail
  refine (HBC.out _).mono ?_
  rintro e wq ⟨rfl, rfl⟩
  go_wp2
  go_loopw [4, 5] (fun l q wr => ∃ (k : Nat) (L : List Tok), q = .int .i64 k ∧ k ≤ s.size ∧ L.length ≤ 2048 ∧ Below w.heap.size w wr ∧ wr.heap[w.heap.size]? = some (.cells #[.int .i64 0, .int .i64 0, .int .i64 0] 28 (0, 0)) ∧ wr.ownsRow (w.heap.size + 1) 43 5 l L.length (toksVals L) ∧ (∀ (i : Nat) (t : Tok), L[i]? = some t → TokIn (fun b => w.heap.size + 1 ≤ b ∧ Value.ownBlock l ≠ some b) wr t ∧ t.text.size ≤ s.size)) (fun _ q _ => s.size - (intOf q).toNat)
  case atStart => exact ⟨blanks s 0, [], rfl, hbl0.2, by simp, HB0.out, HRES0.out, World.ownsRow_nil _ _ _ _, fun i t h => by simp at h⟩
  case round =>
   obtain ⟨k, L, rfl, hk, hL, hb, hres, hown, htoks⟩ := hrel
   have HB := Lib.hid hb
   have HRES := Lib.hid hres
   have HOWN := Lib.hid hown
   have HTOKS := Lib.hid htoks
   have hres0 := blk_lt hres
   clear hb hres hown htoks HB0 HRES0
   have HST := Lib.hid (starts_any s ⟨#[78, 66, 46]⟩ k wr (by omega) (by omega) (by decide))
   by_cases hlt : k < s.size
   ·have d1 : decide ((k : Int) < (s.size : Int)) = true := decide_eq_true (by omega)
    cases hst : startsM s k ⟨#[78, 66, 46]⟩ with
    | true =>
     rw [hst] at HST
     clear hst
     have g0 := blk_cell HRES.out 0
     have gf0 := blk_frozen HRES.out 0
     have g1 := blk_cell HRES.out 1
     have gf1 := blk_frozen HRES.out 1
     have g2 := blk_cell HRES.out 2
     have gf2 := blk_frozen HRES.out 2
     obtain ⟨lA, lc, rfl, hnc, hcm⟩ := own_slice2 HOWN.out
     go_wp2_with fail
     refine HST.out.mono ?_
     rintro e wq ⟨rfl, hww⟩
     obtain rfl : wr = wq := hww.symm
     go_wp2_with fail
     have hr := three_blk HRES.out (.int .i64 0) (.int .i64 0) (.int .i64 0)
     have q0 := blk_cell hr 0
     have q1 := blk_cell hr 1
     have q2 := blk_cell hr 2
     refine bodyPost_ret (v := .tuple #[.slice lA L.length lc, faultV (0) (0)]) (by simp [results, Try.results14, go_sem, faultV, q0, q1, q2]) rfl ?_
     refine ⟨below_set (below_set (below_set HB.out (Nat.le_refl _) 0 (.int .i64 0)) (Nat.le_refl _) 1 (.int .i64 0)) (Nat.le_refl _) 2 (.int .i64 0), lA, lc, L, 0, 0, rfl, own_kept (R := w.heap.size) (Nat.le_succ _) (S := fun b => w.heap.size + 1 ≤ b) (fun b hb => Nat.le_of_succ_le hb) (own_far (p := ⟨w.heap.size, 2, none⟩) (own_far (p := ⟨w.heap.size, 1, none⟩) (own_far (p := ⟨w.heap.size, 0, none⟩) HOWN.out (by simp) _) (by simp) _) (by simp) _) (fun i t ht => ⟨((((HTOKS.out i t ht).1.mono (T := fun b => w.heap.size + 1 ≤ b) (Nat.le_refl _) (fun b hb _ => ⟨hb.1, rfl⟩)).set (fun b hb => by omega)).set (fun b hb => by omega)).set (fun b hb => by omega), (HTOKS.out i t ht).2⟩) hL, hnc, hcm, fun l h => by cases h⟩
    | false =>
     rw [hst] at HST
     clear hst
     by_cases h2048 : L.length = 2048
     ·obtain ⟨lA, lc, rfl, hnc, hcm⟩ := own_slice2 HOWN.out
      have b1 : ((L.length : Int) == 2048) = true := beq_iff_eq.2 (by omega)
      have HL := Lib.hid h2048
      clear h2048
      have g0 := blk_cell HRES.out 0
      have gf0 := blk_frozen HRES.out 0
      have g1 := blk_cell HRES.out 1
      have gf1 := blk_frozen HRES.out 1
      have g2 := blk_cell HRES.out 2
      have gf2 := blk_frozen HRES.out 2
      go_wp2_with fail
      refine HST.out.mono ?_
      rintro e wq ⟨rfl, hww⟩
      obtain rfl : wr = wq := hww.symm
      go_wp2_with fail
      have hr := three_blk HRES.out (.int .i64 14) (.int .i64 (k : Int)) (.int .i64 0)
      have q0 := blk_cell hr 0
      have q1 := blk_cell hr 1
      have q2 := blk_cell hr 2
      refine bodyPost_ret (v := .tuple #[.slice none 0 0, faultV (14) ((k : Int))]) (by simp [results, Try.results14, go_sem, faultV, q0, q1, q2]) rfl ?_
      refine ⟨below_set (below_set (below_set HB.out (Nat.le_refl _) 0 (.int .i64 14)) (Nat.le_refl _) 1 (.int .i64 (k : Int))) (Nat.le_refl _) 2 (.int .i64 0), none, 0, [], 14, _, rfl, ToksKept.nil _ _ _, Nat.le_refl _, by omega, fun l h => by cases h⟩
     ·obtain ⟨lA, lc, rfl, hnc, hcm⟩ := own_slice2 HOWN.out
      have b1 : ((L.length : Int) == 2048) = false := beq_eq_false_iff_ne.2 (by omega)
      go_wp2_with fail
      refine HST.out.mono ?_
      rintro e wq ⟨rfl, hww⟩
      obtain rfl : wr = wq := hww.symm
      go_wp2_with fail
      refine (one26_any s k wr (by omega) hlt).mono ?_
      rintro e w2 ⟨hb2, v, tk, tx, ta, to, er, at_, rfl, htv, htx, hto, hom⟩
      obtain ⟨t, htk, htx2, rfl, htin⟩ := htv.tok
      have HTIN := Lib.hid htin
      have HTK := Lib.hid (And.intro htk htx2)
      have HTO := Lib.hid hto
      have HOM := Lib.hid hom
      have HTX := Lib.hid htx
      have HB2 := Lib.hid (below_then HB.out HB.out.size hb2)
      have HRES2 := Lib.hid (blk_below HRES.out hb2 (blk_lt HRES.out))
      have HOWN2 := Lib.hid (own_below HOWN.out hb2)
      have hs2 := hb2.size
      have HTOKS2 := Lib.hid (show ∀ (i : Nat) (t : Tok), L[i]? = some t → TokIn (fun b => w.heap.size + 1 ≤ b ∧ Value.ownBlock (.slice lA L.length lc) ≠ some b) w2 t ∧ t.text.size ≤ s.size from fun i t ht => ⟨(HTOKS.out i t ht).1.below hb2, (HTOKS.out i t ht).2⟩)
      have hown0 : ∀ b, Value.ownBlock (.slice lA L.length lc) = some b → b < wr.heap.size := fun b hb => (HOWN.out.lt b hb).2
      have HOWN0 := Lib.hid hown0
      have hsB := HB.out.size
      clear htv htin htk htx2 hto hom htx hb2 hown0 HB HRES HOWN HTOKS
      unfold faultV
      simp only [tokVals]
      by_cases her : er = 0
      ·have b2 : (er == 0) = true := beq_iff_eq.2 her
       have HTO2 := Lib.hid (show k < to ∧ to ≤ s.size by rcases HTO.out with h | h; exact absurd her h; exact h.2)
       have hto := HTO2.out
       have HER := Lib.hid her
       have hres2 := blk_lt HRES2.out
       clear her
       go_wp2_with
        (at_builtin; refine wpList_append_lies _ rfl (.tmp 41) (.tmp 43) 25 rfl (w.heap.size + 1) 43 i0 _ 5 80 Try.underlying25 hi0 hz0 hz1 hz2 rfl (by omega) (.slice lA L.length lc) L.length (toksVals L) rfl (((HOWN2.out.alloc (.cells #[.int .i64 t.kind, .string t.text, .slice t.lit.sA t.lit.sn t.lit.sc, .slice t.lit.cA t.lit.cn t.lit.cc, .int .i64 t.at_] 43)).alloc (.cells #[.int .i64 er, .int .i64 at_, .int .i64 0] 28)).alloc (.cells #[.int .i64 t.kind, .string t.text, .slice t.lit.sA t.lit.sn t.lit.sc, .slice t.lit.cA t.lit.cn t.lit.cc, .int .i64 t.at_] 43))
            ⟨w2.heap.size + 1 + 1, 0, none⟩ 1 1 (tokVals t) rfl rfl (World.news_of_block (cs := (tokVals t).toArray) (t := 43) (fr := (0, 0)) (by have := heap_alloc_new ((w2.alloc (.cells #[.int .i64 t.kind, .string t.text, .slice t.lit.sA t.lit.sn t.lit.sc, .slice t.lit.cA t.lit.cn t.lit.cc, .int .i64 t.at_] 43)).alloc (.cells #[.int .i64 er, .int .i64 at_, .int .i64 0] 28)) (.cells #[.int .i64 t.kind, .string t.text, .slice t.lit.sA t.lit.sn t.lit.sc, .slice t.lit.cA t.lit.cn t.lit.cc, .int .i64 t.at_] 43); simpa [tokVals] using this)) (tokVals_one t) (by omega) (by unfold maxLen; omega) (by omega) (by simp; omega) (w2.heap.size + 1 + 1 + 1) (by simp) ?_; intro gg cap w5 hown5 hgrow hat5 hlt5; have HOWN5 := Lib.hid hown5; have HGR := Lib.hid hgrow; have HAT5 := Lib.hid hat5)
       refine (blanks_any s to _ (by omega) HTO2.out.2).mono ?_
       rintro e wq ⟨rfl, hww⟩
       obtain rfl : w5 = wq := hww.symm
       have hbl := blanks_le (s := s) (i := to) HTO2.out.2
       have hal : Below w2.heap.size w2 ((((w2.alloc (.cells #[.int .i64 t.kind, .string t.text, .slice t.lit.sA t.lit.sn t.lit.sc, .slice t.lit.cA t.lit.cn t.lit.cc, .int .i64 t.at_] 43)).alloc (.cells #[.int .i64 er, .int .i64 at_, .int .i64 0] 28)).alloc (.cells #[.int .i64 t.kind, .string t.text, .slice t.lit.sA t.lit.sn t.lit.sc, .slice t.lit.cA t.lit.cn t.lit.cc, .int .i64 t.at_] 43))) := ((((Below.refl _ w2).alloc (Nat.le_refl _) _).alloc (by simp) _).alloc (by simp; omega) _)
       have HAL := Lib.hid hal
       clear hal
       go_wp2_with fail
       go_roundw
       case rel =>
        refine ⟨blanks s to, L ++ [t], rfl, hbl.2, ?_, ?_, ?_, ?_, ?_⟩
        ·simp; omega
        ·exact (below_then HB2.out HB2.out.size HAL.out).grown HGR.out (by have := HB2.out.size; simp; omega) (fun g hg => by have := (HOWN2.out.lt g hg).1; omega)
        ·exact blk_grown (blk_below HRES2.out HAL.out hres2) HGR.out (own_ne HOWN2.out (by omega))
        ·rw [toksVals_snoc]; simpa using HOWN5.out
        ·have := tok_push (n := L.length + 1) (cap := cap) HTOKS2.out HOWN0.out HTIN.out (by rw [HTK.out.2]; exact HTX.out) (by omega) HAL.out HGR.out HAT5.out (by omega)
         exact this
       case measure => simp [intOf]; omega
      ·have b2 : (er == 0) = false := beq_eq_false_iff_ne.2 her
       have HER := Lib.hid her
       have hres2 := blk_lt HRES2.out
       clear her
       go_wp2
       obtain ⟨W, hW⟩ : ∃ W, (w2.alloc (.cells #[.int .i64 t.kind, .string t.text, .slice t.lit.sA t.lit.sn t.lit.sc, .slice t.lit.cA t.lit.cn t.lit.cc, .int .i64 t.at_] 43)).alloc (.cells #[.int .i64 er, .int .i64 at_, .int .i64 0] 28) = W := ⟨_, rfl⟩
       have hbW : Below w2.heap.size w2 W := by rw [← hW]; exact ((Below.refl _ w2).alloc (Nat.le_refl _) _).alloc (by simp) _
       have hfW : W.heap[w2.heap.size + 1]? = some (.cells #[.int .i64 er, .int .i64 at_, .int .i64 0] 28 (0, 0)) := by
        have := blk_new (w2.alloc (.cells #[.int .i64 t.kind, .string t.text, .slice t.lit.sA t.lit.sn t.lit.sc, .slice t.lit.cA t.lit.cn t.lit.cc, .int .i64 t.at_] 43)) (.cells #[.int .i64 er, .int .i64 at_, .int .i64 0] 28)
        rw [hW] at this
        simpa using this
       rw [hW]
       have HRESW := Lib.hid (blk_below HRES2.out hbW hres2)
       have HBW := Lib.hid (below_then HB2.out HB2.out.size hbW)
       have HFW := Lib.hid hfW
       clear hbW hfW hW
       have g0 := blk_cell HRESW.out 0
       have gf0 := blk_frozen HRESW.out 0
       have g1 := blk_cell HRESW.out 1
       have gf1 := blk_frozen HRESW.out 1
       have g2 := blk_cell HRESW.out 2
       have gf2 := blk_frozen HRESW.out 2
       have f0 := blk_cell HFW.out 0
       have ff0 := blk_frozen HFW.out 0
       have f1 := blk_cell HFW.out 1
       have ff1 := blk_frozen HFW.out 1
       have f2 := blk_cell HFW.out 2
       have ff2 := blk_frozen HFW.out 2
       go_region
       all_goals
        go_wp2
        have hr := blk_drew (three_blk HRESW.out (.int .i64 er) (.int .i64 at_) (.int .i64 0))
        have q0 := blk_cell hr 0
        have q1 := blk_cell hr 1
        have q2 := blk_cell hr 2
        refine bodyPost_ret (v := .tuple #[.slice none 0 0, faultV (er) (at_)]) (by simp [results, Try.results14, go_sem, faultV, q0, q1, q2]) rfl ?_
        refine ⟨(below_set (below_set (below_set HBW.out (Nat.le_refl _) 0 (.int .i64 er)) (Nat.le_refl _) 1 (.int .i64 at_)) (Nat.le_refl _) 2 (.int .i64 0)).drew, none, 0, [], er, at_, rfl, ToksKept.nil _ _ _, Nat.le_refl _, by omega, fun l h => by cases h⟩
   ·have d1 : decide ((k : Int) < (s.size : Int)) = false := decide_eq_false (by omega)
    have g0 := blk_cell HRES.out 0
    have gf0 := blk_frozen HRES.out 0
    have g1 := blk_cell HRES.out 1
    have gf1 := blk_frozen HRES.out 1
    have g2 := blk_cell HRES.out 2
    have gf2 := blk_frozen HRES.out 2
    obtain ⟨lA, lc, rfl, hnc, hcm⟩ := own_slice2 HOWN.out
    go_wp2_with fail
    have hr := three_blk HRES.out (.int .i64 0) (.int .i64 0) (.int .i64 0)
    have q0 := blk_cell hr 0
    have q1 := blk_cell hr 1
    have q2 := blk_cell hr 2
    refine bodyPost_ret (v := .tuple #[.slice lA L.length lc, faultV (0) (0)]) (by simp [results, Try.results14, go_sem, faultV, q0, q1, q2]) rfl ?_
    refine ⟨below_set (below_set (below_set HB.out (Nat.le_refl _) 0 (.int .i64 0)) (Nat.le_refl _) 1 (.int .i64 0)) (Nat.le_refl _) 2 (.int .i64 0), lA, lc, L, 0, 0, rfl, own_kept (R := w.heap.size) (Nat.le_succ _) (S := fun b => w.heap.size + 1 ≤ b) (fun b hb => Nat.le_of_succ_le hb) (own_far (p := ⟨w.heap.size, 2, none⟩) (own_far (p := ⟨w.heap.size, 1, none⟩) (own_far (p := ⟨w.heap.size, 0, none⟩) HOWN.out (by simp) _) (by simp) _) (by simp) _) (fun i t ht => ⟨((((HTOKS.out i t ht).1.mono (T := fun b => w.heap.size + 1 ≤ b) (Nat.le_refl _) (fun b hb _ => ⟨hb.1, rfl⟩)).set (fun b hb => by omega)).set (fun b hb => by omega)).set (fun b hb => by omega), (HTOKS.out i t ht).2⟩) hL, hnc, hcm, fun l h => by cases h⟩
 ·have d0 : decide ((8192 : Int) < (s.size : Int)) = true := decide_eq_true (by omega)
  go_enter Try.func14, Try.ntmps14
  go_wp2
  have hr := blk_new w (.cells #[.int .i64 14, .int .i64 0, .int .i64 0] 28)
  have q0 := blk_cell hr 0
  have q1 := blk_cell hr 1
  have q2 := blk_cell hr 2
  refine bodyPost_ret (v := .tuple #[.slice none 0 0, faultV 14 0]) (by simp [results, Try.results14, go_sem, faultV]) rfl ?_
  exact ⟨(Below.refl _ w).alloc (Nat.le_refl _) (.cells #[.int .i64 14, .int .i64 0, .int .i64 0] 28), none, 0, [], 14, 0, rfl, ToksKept.nil _ _ _, Nat.le_refl _, by omega, fun l h => by cases h⟩
end Go.Proofs.Ytollglblkbjgjaa
namespace Go.Proofs.Ytollglblkbjgjaa
open Go.RowKit

set_option maxRecDepth 100000 in
set_option maxHeartbeats 16000000 in
theorem lex16_any (s : ByteArray) (w : World) : Calls Try.prog 16 #[.string s] w (LexTo none s w) := by
 obtain ⟨i0, hi0, hz0, hz1, hz2⟩ := info_parts info43
 have HRES0 := Lib.hid (blk_new w (.cells #[.int .i64 0, .int .i64 0, .int .i64 0] 28))
 have HB0 := Lib.hid ((Below.refl _ w).alloc (Nat.le_refl _) (.cells #[.int .i64 0, .int .i64 0, .int .i64 0] 28))
 by_cases hs : s.size ≤ 8192
 ·have d0 : decide ((8192 : Int) < (s.size : Int)) = false := decide_eq_false (by omega)
  have hbl0 := blanks_le (s := s) (i := 0) (Nat.zero_le _)
  have hbc : ∀ W, Calls Try.prog 23 #[.string s, .int .i64 0] W (Says (.int .i64 ((blanks s 0 : Nat) : Int)) W) := fun W => blanks_any s 0 W (by omega) (Nat.zero_le _)
  have HBC := Lib.hid hbc
  clear hbc
  go_enter Try.func16, Try.ntmps16
  go_wp2_with fail
  refine (HBC.out _).mono ?_
  rintro e wq ⟨rfl, rfl⟩
  go_wp2
  go_loopw [4, 5] (fun l q wr => ∃ (k : Nat) (L : List Tok), q = .int .i64 k ∧ k ≤ s.size ∧ L.length ≤ 2048 ∧ Below w.heap.size w wr ∧ wr.heap[w.heap.size]? = some (.cells #[.int .i64 0, .int .i64 0, .int .i64 0] 28 (0, 0)) ∧ wr.ownsRow (w.heap.size + 1) 43 5 l L.length (toksVals L) ∧ (∀ (i : Nat) (t : Tok), L[i]? = some t → TokIn (fun b => w.heap.size + 1 ≤ b ∧ Value.ownBlock l ≠ some b) wr t ∧ t.text.size ≤ s.size)) (fun _ q _ => s.size - (intOf q).toNat)
  case atStart => exact ⟨blanks s 0, [], rfl, hbl0.2, by simp, HB0.out, HRES0.out, World.ownsRow_nil _ _ _ _, fun i t h => by simp at h⟩
  case round =>
   obtain ⟨k, L, rfl, hk, hL, hb, hres, hown, htoks⟩ := hrel
   have HB := Lib.hid hb
   have HRES := Lib.hid hres
   have HOWN := Lib.hid hown
   have HTOKS := Lib.hid htoks
   have hres0 := blk_lt hres
   clear hb hres hown htoks HB0 HRES0
   by_cases hlt : k < s.size
   ·have d1 : decide ((k : Int) < (s.size : Int)) = true := decide_eq_true (by omega)
    have hj0 : (0 : Int) ≤ (k : Int) := by omega
    have hj1 : (k : Int) < (s.size : Int) := by omega
    have hbg := bt_get s k hlt
    cases b47 : (bt s k == 47) with
    | false =>
     by_cases h2048 : L.length = 2048
     ·obtain ⟨lA, lc, rfl, hnc, hcm⟩ := own_slice2 HOWN.out
      have b1 : ((L.length : Int) == 2048) = true := beq_iff_eq.2 (by omega)
      have HL := Lib.hid h2048
      clear h2048
      have g0 := blk_cell HRES.out 0
      have gf0 := blk_frozen HRES.out 0
      have g1 := blk_cell HRES.out 1
      have gf1 := blk_frozen HRES.out 1
      have g2 := blk_cell HRES.out 2
      have gf2 := blk_frozen HRES.out 2
      go_wp2_with fail
      have hr := three_blk HRES.out (.int .i64 14) (.int .i64 (k : Int)) (.int .i64 0)
      have q0 := blk_cell hr 0
      have q1 := blk_cell hr 1
      have q2 := blk_cell hr 2
      refine bodyPost_ret (v := .tuple #[.slice none 0 0, faultV (14) ((k : Int))]) (by simp [results, Try.results16, go_sem, faultV, q0, q1, q2]) rfl ?_
      refine ⟨below_set (below_set (below_set HB.out (Nat.le_refl _) 0 (.int .i64 14)) (Nat.le_refl _) 1 (.int .i64 (k : Int))) (Nat.le_refl _) 2 (.int .i64 0), none, 0, [], 14, _, rfl, ToksKept.nil _ _ _, Nat.le_refl _, by omega, fun l h => by cases h⟩
     ·obtain ⟨lA, lc, rfl, hnc, hcm⟩ := own_slice2 HOWN.out
      have b1 : ((L.length : Int) == 2048) = false := beq_eq_false_iff_ne.2 (by omega)
      go_wp2_with fail
      refine (one27_any s k wr (by omega) hlt).mono ?_
      rintro e w2 ⟨hb2, v, tk, tx, ta, to, er, at_, rfl, htv, htx, hto, hom⟩
      obtain ⟨t, htk, htx2, rfl, htin⟩ := htv.tok
      have HTIN := Lib.hid htin
      have HTK := Lib.hid (And.intro htk htx2)
      have HTO := Lib.hid hto
      have HOM := Lib.hid hom
      have HTX := Lib.hid htx
      have HB2 := Lib.hid (below_then HB.out HB.out.size hb2)
      have HRES2 := Lib.hid (blk_below HRES.out hb2 (blk_lt HRES.out))
      have HOWN2 := Lib.hid (own_below HOWN.out hb2)
      have hs2 := hb2.size
      have HTOKS2 := Lib.hid (show ∀ (i : Nat) (t : Tok), L[i]? = some t → TokIn (fun b => w.heap.size + 1 ≤ b ∧ Value.ownBlock (.slice lA L.length lc) ≠ some b) w2 t ∧ t.text.size ≤ s.size from fun i t ht => ⟨(HTOKS.out i t ht).1.below hb2, (HTOKS.out i t ht).2⟩)
      have hown0 : ∀ b, Value.ownBlock (.slice lA L.length lc) = some b → b < wr.heap.size := fun b hb => (HOWN.out.lt b hb).2
      have HOWN0 := Lib.hid hown0
      have hsB := HB.out.size
      clear htv htin htk htx2 hto hom htx hb2 hown0 HB HRES HOWN HTOKS
      unfold faultV
      simp only [tokVals]
      by_cases her : er = 0
      ·have b2 : (er == 0) = true := beq_iff_eq.2 her
       have HTO2 := Lib.hid (show k < to ∧ to ≤ s.size by rcases HTO.out with h | h; exact absurd her h; exact h.2)
       have hto := HTO2.out
       have HER := Lib.hid her
       have hres2 := blk_lt HRES2.out
       clear her
       go_wp2_with
        (at_builtin; refine wpList_append_lies _ rfl (.tmp 50) (.tmp 52) 25 rfl (w.heap.size + 1) 43 i0 _ 5 80 Try.underlying25 hi0 hz0 hz1 hz2 rfl (by omega) (.slice lA L.length lc) L.length (toksVals L) rfl (((HOWN2.out.alloc (.cells #[.int .i64 t.kind, .string t.text, .slice t.lit.sA t.lit.sn t.lit.sc, .slice t.lit.cA t.lit.cn t.lit.cc, .int .i64 t.at_] 43)).alloc (.cells #[.int .i64 er, .int .i64 at_, .int .i64 0] 28)).alloc (.cells #[.int .i64 t.kind, .string t.text, .slice t.lit.sA t.lit.sn t.lit.sc, .slice t.lit.cA t.lit.cn t.lit.cc, .int .i64 t.at_] 43))
            ⟨w2.heap.size + 1 + 1, 0, none⟩ 1 1 (tokVals t) rfl rfl (World.news_of_block (cs := (tokVals t).toArray) (t := 43) (fr := (0, 0)) (by have := heap_alloc_new ((w2.alloc (.cells #[.int .i64 t.kind, .string t.text, .slice t.lit.sA t.lit.sn t.lit.sc, .slice t.lit.cA t.lit.cn t.lit.cc, .int .i64 t.at_] 43)).alloc (.cells #[.int .i64 er, .int .i64 at_, .int .i64 0] 28)) (.cells #[.int .i64 t.kind, .string t.text, .slice t.lit.sA t.lit.sn t.lit.sc, .slice t.lit.cA t.lit.cn t.lit.cc, .int .i64 t.at_] 43); simpa [tokVals] using this)) (tokVals_one t) (by omega) (by unfold maxLen; omega) (by omega) (by simp; omega) (w2.heap.size + 1 + 1 + 1) (by simp) ?_; intro gg cap w5 hown5 hgrow hat5 hlt5; have HOWN5 := Lib.hid hown5; have HGR := Lib.hid hgrow; have HAT5 := Lib.hid hat5)
       refine (blanks_any s to _ (by omega) HTO2.out.2).mono ?_
       rintro e wq ⟨rfl, hww⟩
       obtain rfl : w5 = wq := hww.symm
       have hbl := blanks_le (s := s) (i := to) HTO2.out.2
       have hal : Below w2.heap.size w2 ((((w2.alloc (.cells #[.int .i64 t.kind, .string t.text, .slice t.lit.sA t.lit.sn t.lit.sc, .slice t.lit.cA t.lit.cn t.lit.cc, .int .i64 t.at_] 43)).alloc (.cells #[.int .i64 er, .int .i64 at_, .int .i64 0] 28)).alloc (.cells #[.int .i64 t.kind, .string t.text, .slice t.lit.sA t.lit.sn t.lit.sc, .slice t.lit.cA t.lit.cn t.lit.cc, .int .i64 t.at_] 43))) := ((((Below.refl _ w2).alloc (Nat.le_refl _) _).alloc (by simp) _).alloc (by simp; omega) _)
       have HAL := Lib.hid hal
       clear hal
       go_wp2_with fail
       go_roundw
       case rel =>
        refine ⟨blanks s to, L ++ [t], rfl, hbl.2, ?_, ?_, ?_, ?_, ?_⟩
        ·simp; omega
        ·exact (below_then HB2.out HB2.out.size HAL.out).grown HGR.out (by have := HB2.out.size; simp; omega) (fun g hg => by have := (HOWN2.out.lt g hg).1; omega)
        ·exact blk_grown (blk_below HRES2.out HAL.out hres2) HGR.out (own_ne HOWN2.out (by omega))
        ·rw [toksVals_snoc]; simpa using HOWN5.out
        ·have := tok_push (n := L.length + 1) (cap := cap) HTOKS2.out HOWN0.out HTIN.out (by rw [HTK.out.2]; exact HTX.out) (by omega) HAL.out HGR.out HAT5.out (by omega)
         exact this
       case measure => simp [intOf]; omega
      ·have b2 : (er == 0) = false := beq_eq_false_iff_ne.2 her
       have HER := Lib.hid her
       have hres2 := blk_lt HRES2.out
       clear her
       go_wp2
       obtain ⟨W, hW⟩ : ∃ W, (w2.alloc (.cells #[.int .i64 t.kind, .string t.text, .slice t.lit.sA t.lit.sn t.lit.sc, .slice t.lit.cA t.lit.cn t.lit.cc, .int .i64 t.at_] 43)).alloc (.cells #[.int .i64 er, .int .i64 at_, .int .i64 0] 28) = W := ⟨_, rfl⟩
       have hbW : Below w2.heap.size w2 W := by rw [← hW]; exact ((Below.refl _ w2).alloc (Nat.le_refl _) _).alloc (by simp) _
       have hfW : W.heap[w2.heap.size + 1]? = some (.cells #[.int .i64 er, .int .i64 at_, .int .i64 0] 28 (0, 0)) := by
        have := blk_new (w2.alloc (.cells #[.int .i64 t.kind, .string t.text, .slice t.lit.sA t.lit.sn t.lit.sc, .slice t.lit.cA t.lit.cn t.lit.cc, .int .i64 t.at_] 43)) (.cells #[.int .i64 er, .int .i64 at_, .int .i64 0] 28)
        rw [hW] at this
        simpa using this
       rw [hW]
       have HRESW := Lib.hid (blk_below HRES2.out hbW hres2)
       have HBW := Lib.hid (below_then HB2.out HB2.out.size hbW)
       have HFW := Lib.hid hfW
       clear hbW hfW hW
       have g0 := blk_cell HRESW.out 0
       have gf0 := blk_frozen HRESW.out 0
       have g1 := blk_cell HRESW.out 1
       have gf1 := blk_frozen HRESW.out 1
       have g2 := blk_cell HRESW.out 2
       have gf2 := blk_frozen HRESW.out 2
       have f0 := blk_cell HFW.out 0
       have ff0 := blk_frozen HFW.out 0
       have f1 := blk_cell HFW.out 1
       have ff1 := blk_frozen HFW.out 1
       have f2 := blk_cell HFW.out 2
       have ff2 := blk_frozen HFW.out 2
       go_region
       all_goals
        go_wp2
        have hr := blk_drew (three_blk HRESW.out (.int .i64 er) (.int .i64 at_) (.int .i64 0))
        have q0 := blk_cell hr 0
        have q1 := blk_cell hr 1
        have q2 := blk_cell hr 2
        refine bodyPost_ret (v := .tuple #[.slice none 0 0, faultV (er) (at_)]) (by simp [results, Try.results16, go_sem, faultV, q0, q1, q2]) rfl ?_
        refine ⟨(below_set (below_set (below_set HBW.out (Nat.le_refl _) 0 (.int .i64 er)) (Nat.le_refl _) 1 (.int .i64 at_)) (Nat.le_refl _) 2 (.int .i64 0)).drew, none, 0, [], er, at_, rfl, ToksKept.nil _ _ _, Nat.le_refl _, by omega, fun l h => by cases h⟩
    | true =>
     by_cases hz : k = 0
     ·obtain rfl : k = 0 := hz
      have hbg0 : ((s[0].toNat : Nat) : Int) = bt s 0 := bt_get s 0 hlt
      have hz1 : (0 : Int) < (s.size : Int) := by omega
      have g0 := blk_cell HRES.out 0
      have gf0 := blk_frozen HRES.out 0
      have g1 := blk_cell HRES.out 1
      have gf1 := blk_frozen HRES.out 1
      have g2 := blk_cell HRES.out 2
      have gf2 := blk_frozen HRES.out 2
      obtain ⟨lA, lc, rfl, hnc, hcm⟩ := own_slice2 HOWN.out
      go_wp2_with fail
      have hr := three_blk HRES.out (.int .i64 0) (.int .i64 0) (.int .i64 0)
      have q0 := blk_cell hr 0
      have q1 := blk_cell hr 1
      have q2 := blk_cell hr 2
      refine bodyPost_ret (v := .tuple #[.slice lA L.length lc, faultV (0) (0)]) (by simp [results, Try.results16, go_sem, faultV, q0, q1, q2]) rfl ?_
      refine ⟨below_set (below_set (below_set HB.out (Nat.le_refl _) 0 (.int .i64 0)) (Nat.le_refl _) 1 (.int .i64 0)) (Nat.le_refl _) 2 (.int .i64 0), lA, lc, L, 0, 0, rfl, own_kept (R := w.heap.size) (Nat.le_succ _) (S := fun b => w.heap.size + 1 ≤ b) (fun b hb => Nat.le_of_succ_le hb) (own_far (p := ⟨w.heap.size, 2, none⟩) (own_far (p := ⟨w.heap.size, 1, none⟩) (own_far (p := ⟨w.heap.size, 0, none⟩) HOWN.out (by simp) _) (by simp) _) (by simp) _) (fun i t ht => ⟨((((HTOKS.out i t ht).1.mono (T := fun b => w.heap.size + 1 ≤ b) (Nat.le_refl _) (fun b hb _ => ⟨hb.1, rfl⟩)).set (fun b hb => by omega)).set (fun b hb => by omega)).set (fun b hb => by omega), (HTOKS.out i t ht).2⟩) hL, hnc, hcm, fun l h => by cases h⟩
     ·have bz : ((k : Int) == 0) = false := beq_eq_false_iff_ne.2 (by omega)
      have hwm : IntKind.i64.wrap ((k : Int) - 1) = ((k - 1 : Nat) : Int) := (wraps_i64 _ (by omega) (by omega)).trans (by omega)
      obtain ⟨m, hm⟩ : ∃ m, k - 1 = m := ⟨_, rfl⟩
      rw [hm] at hwm
      have hml : m < s.size := by omega
      clear hm
      have hbg3 := bt_get s m hml
      have hm0 : (0 : Int) ≤ (m : Int) := by omega
      have hm1 : (m : Int) < (s.size : Int) := by omega
      cases b32 : (bt s m == 32) with
      | true =>
       have g0 := blk_cell HRES.out 0
       have gf0 := blk_frozen HRES.out 0
       have g1 := blk_cell HRES.out 1
       have gf1 := blk_frozen HRES.out 1
       have g2 := blk_cell HRES.out 2
       have gf2 := blk_frozen HRES.out 2
       obtain ⟨lA, lc, rfl, hnc, hcm⟩ := own_slice2 HOWN.out
       go_wp2_with fail
       have hr := three_blk HRES.out (.int .i64 0) (.int .i64 0) (.int .i64 0)
       have q0 := blk_cell hr 0
       have q1 := blk_cell hr 1
       have q2 := blk_cell hr 2
       refine bodyPost_ret (v := .tuple #[.slice lA L.length lc, faultV (0) (0)]) (by simp [results, Try.results16, go_sem, faultV, q0, q1, q2]) rfl ?_
       refine ⟨below_set (below_set (below_set HB.out (Nat.le_refl _) 0 (.int .i64 0)) (Nat.le_refl _) 1 (.int .i64 0)) (Nat.le_refl _) 2 (.int .i64 0), lA, lc, L, 0, 0, rfl, own_kept (R := w.heap.size) (Nat.le_succ _) (S := fun b => w.heap.size + 1 ≤ b) (fun b hb => Nat.le_of_succ_le hb) (own_far (p := ⟨w.heap.size, 2, none⟩) (own_far (p := ⟨w.heap.size, 1, none⟩) (own_far (p := ⟨w.heap.size, 0, none⟩) HOWN.out (by simp) _) (by simp) _) (by simp) _) (fun i t ht => ⟨((((HTOKS.out i t ht).1.mono (T := fun b => w.heap.size + 1 ≤ b) (Nat.le_refl _) (fun b hb _ => ⟨hb.1, rfl⟩)).set (fun b hb => by omega)).set (fun b hb => by omega)).set (fun b hb => by omega), (HTOKS.out i t ht).2⟩) hL, hnc, hcm, fun l h => by cases h⟩
      | false =>
       by_cases h2048 : L.length = 2048
       ·obtain ⟨lA, lc, rfl, hnc, hcm⟩ := own_slice2 HOWN.out
        have b1 : ((L.length : Int) == 2048) = true := beq_iff_eq.2 (by omega)
        have HL := Lib.hid h2048
        clear h2048
        have g0 := blk_cell HRES.out 0
        have gf0 := blk_frozen HRES.out 0
        have g1 := blk_cell HRES.out 1
        have gf1 := blk_frozen HRES.out 1
        have g2 := blk_cell HRES.out 2
        have gf2 := blk_frozen HRES.out 2
        go_wp2_with fail
        have hr := three_blk HRES.out (.int .i64 14) (.int .i64 (k : Int)) (.int .i64 0)
        have q0 := blk_cell hr 0
        have q1 := blk_cell hr 1
        have q2 := blk_cell hr 2
        refine bodyPost_ret (v := .tuple #[.slice none 0 0, faultV (14) ((k : Int))]) (by simp [results, Try.results16, go_sem, faultV, q0, q1, q2]) rfl ?_
        refine ⟨below_set (below_set (below_set HB.out (Nat.le_refl _) 0 (.int .i64 14)) (Nat.le_refl _) 1 (.int .i64 (k : Int))) (Nat.le_refl _) 2 (.int .i64 0), none, 0, [], 14, _, rfl, ToksKept.nil _ _ _, Nat.le_refl _, by omega, fun l h => by cases h⟩
       ·obtain ⟨lA, lc, rfl, hnc, hcm⟩ := own_slice2 HOWN.out
        have b1 : ((L.length : Int) == 2048) = false := beq_eq_false_iff_ne.2 (by omega)
        go_wp2_with fail
        refine (one27_any s k wr (by omega) hlt).mono ?_
        rintro e w2 ⟨hb2, v, tk, tx, ta, to, er, at_, rfl, htv, htx, hto, hom⟩
        obtain ⟨t, htk, htx2, rfl, htin⟩ := htv.tok
        have HTIN := Lib.hid htin
        have HTK := Lib.hid (And.intro htk htx2)
        have HTO := Lib.hid hto
        have HOM := Lib.hid hom
        have HTX := Lib.hid htx
        have HB2 := Lib.hid (below_then HB.out HB.out.size hb2)
        have HRES2 := Lib.hid (blk_below HRES.out hb2 (blk_lt HRES.out))
        have HOWN2 := Lib.hid (own_below HOWN.out hb2)
        have hs2 := hb2.size
        have HTOKS2 := Lib.hid (show ∀ (i : Nat) (t : Tok), L[i]? = some t → TokIn (fun b => w.heap.size + 1 ≤ b ∧ Value.ownBlock (.slice lA L.length lc) ≠ some b) w2 t ∧ t.text.size ≤ s.size from fun i t ht => ⟨(HTOKS.out i t ht).1.below hb2, (HTOKS.out i t ht).2⟩)
        have hown0 : ∀ b, Value.ownBlock (.slice lA L.length lc) = some b → b < wr.heap.size := fun b hb => (HOWN.out.lt b hb).2
        have HOWN0 := Lib.hid hown0
        have hsB := HB.out.size
        clear htv htin htk htx2 hto hom htx hb2 hown0 HB HRES HOWN HTOKS
        unfold faultV
        simp only [tokVals]
        by_cases her : er = 0
        ·have b2 : (er == 0) = true := beq_iff_eq.2 her
         have HTO2 := Lib.hid (show k < to ∧ to ≤ s.size by rcases HTO.out with h | h; exact absurd her h; exact h.2)
         have hto := HTO2.out
         have HER := Lib.hid her
         have hres2 := blk_lt HRES2.out
         clear her
         go_wp2_with
          (at_builtin; refine wpList_append_lies _ rfl (.tmp 50) (.tmp 52) 25 rfl (w.heap.size + 1) 43 i0 _ 5 80 Try.underlying25 hi0 hz0 hz1 hz2 rfl (by omega) (.slice lA L.length lc) L.length (toksVals L) rfl (((HOWN2.out.alloc (.cells #[.int .i64 t.kind, .string t.text, .slice t.lit.sA t.lit.sn t.lit.sc, .slice t.lit.cA t.lit.cn t.lit.cc, .int .i64 t.at_] 43)).alloc (.cells #[.int .i64 er, .int .i64 at_, .int .i64 0] 28)).alloc (.cells #[.int .i64 t.kind, .string t.text, .slice t.lit.sA t.lit.sn t.lit.sc, .slice t.lit.cA t.lit.cn t.lit.cc, .int .i64 t.at_] 43))
              ⟨w2.heap.size + 1 + 1, 0, none⟩ 1 1 (tokVals t) rfl rfl (World.news_of_block (cs := (tokVals t).toArray) (t := 43) (fr := (0, 0)) (by have := heap_alloc_new ((w2.alloc (.cells #[.int .i64 t.kind, .string t.text, .slice t.lit.sA t.lit.sn t.lit.sc, .slice t.lit.cA t.lit.cn t.lit.cc, .int .i64 t.at_] 43)).alloc (.cells #[.int .i64 er, .int .i64 at_, .int .i64 0] 28)) (.cells #[.int .i64 t.kind, .string t.text, .slice t.lit.sA t.lit.sn t.lit.sc, .slice t.lit.cA t.lit.cn t.lit.cc, .int .i64 t.at_] 43); simpa [tokVals] using this)) (tokVals_one t) (by omega) (by unfold maxLen; omega) (by omega) (by simp; omega) (w2.heap.size + 1 + 1 + 1) (by simp) ?_; intro gg cap w5 hown5 hgrow hat5 hlt5; have HOWN5 := Lib.hid hown5; have HGR := Lib.hid hgrow; have HAT5 := Lib.hid hat5)
         refine (blanks_any s to _ (by omega) HTO2.out.2).mono ?_
         rintro e wq ⟨rfl, hww⟩
         obtain rfl : w5 = wq := hww.symm
         have hbl := blanks_le (s := s) (i := to) HTO2.out.2
         have hal : Below w2.heap.size w2 ((((w2.alloc (.cells #[.int .i64 t.kind, .string t.text, .slice t.lit.sA t.lit.sn t.lit.sc, .slice t.lit.cA t.lit.cn t.lit.cc, .int .i64 t.at_] 43)).alloc (.cells #[.int .i64 er, .int .i64 at_, .int .i64 0] 28)).alloc (.cells #[.int .i64 t.kind, .string t.text, .slice t.lit.sA t.lit.sn t.lit.sc, .slice t.lit.cA t.lit.cn t.lit.cc, .int .i64 t.at_] 43))) := ((((Below.refl _ w2).alloc (Nat.le_refl _) _).alloc (by simp) _).alloc (by simp; omega) _)
         have HAL := Lib.hid hal
         clear hal
         go_wp2_with fail
         go_roundw
         case rel =>
          refine ⟨blanks s to, L ++ [t], rfl, hbl.2, ?_, ?_, ?_, ?_, ?_⟩
          ·simp; omega
          ·exact (below_then HB2.out HB2.out.size HAL.out).grown HGR.out (by have := HB2.out.size; simp; omega) (fun g hg => by have := (HOWN2.out.lt g hg).1; omega)
          ·exact blk_grown (blk_below HRES2.out HAL.out hres2) HGR.out (own_ne HOWN2.out (by omega))
          ·rw [toksVals_snoc]; simpa using HOWN5.out
          ·have := tok_push (n := L.length + 1) (cap := cap) HTOKS2.out HOWN0.out HTIN.out (by rw [HTK.out.2]; exact HTX.out) (by omega) HAL.out HGR.out HAT5.out (by omega)
           exact this
         case measure => simp [intOf]; omega
        ·have b2 : (er == 0) = false := beq_eq_false_iff_ne.2 her
         have HER := Lib.hid her
         have hres2 := blk_lt HRES2.out
         clear her
         go_wp2
         obtain ⟨W, hW⟩ : ∃ W, (w2.alloc (.cells #[.int .i64 t.kind, .string t.text, .slice t.lit.sA t.lit.sn t.lit.sc, .slice t.lit.cA t.lit.cn t.lit.cc, .int .i64 t.at_] 43)).alloc (.cells #[.int .i64 er, .int .i64 at_, .int .i64 0] 28) = W := ⟨_, rfl⟩
         have hbW : Below w2.heap.size w2 W := by rw [← hW]; exact ((Below.refl _ w2).alloc (Nat.le_refl _) _).alloc (by simp) _
         have hfW : W.heap[w2.heap.size + 1]? = some (.cells #[.int .i64 er, .int .i64 at_, .int .i64 0] 28 (0, 0)) := by
          have := blk_new (w2.alloc (.cells #[.int .i64 t.kind, .string t.text, .slice t.lit.sA t.lit.sn t.lit.sc, .slice t.lit.cA t.lit.cn t.lit.cc, .int .i64 t.at_] 43)) (.cells #[.int .i64 er, .int .i64 at_, .int .i64 0] 28)
          rw [hW] at this
          simpa using this
         rw [hW]
         have HRESW := Lib.hid (blk_below HRES2.out hbW hres2)
         have HBW := Lib.hid (below_then HB2.out HB2.out.size hbW)
         have HFW := Lib.hid hfW
         clear hbW hfW hW
         have g0 := blk_cell HRESW.out 0
         have gf0 := blk_frozen HRESW.out 0
         have g1 := blk_cell HRESW.out 1
         have gf1 := blk_frozen HRESW.out 1
         have g2 := blk_cell HRESW.out 2
         have gf2 := blk_frozen HRESW.out 2
         have f0 := blk_cell HFW.out 0
         have ff0 := blk_frozen HFW.out 0
         have f1 := blk_cell HFW.out 1
         have ff1 := blk_frozen HFW.out 1
         have f2 := blk_cell HFW.out 2
         have ff2 := blk_frozen HFW.out 2
         go_region
         all_goals
          go_wp2
          have hr := blk_drew (three_blk HRESW.out (.int .i64 er) (.int .i64 at_) (.int .i64 0))
          have q0 := blk_cell hr 0
          have q1 := blk_cell hr 1
          have q2 := blk_cell hr 2
          refine bodyPost_ret (v := .tuple #[.slice none 0 0, faultV (er) (at_)]) (by simp [results, Try.results16, go_sem, faultV, q0, q1, q2]) rfl ?_
          refine ⟨(below_set (below_set (below_set HBW.out (Nat.le_refl _) 0 (.int .i64 er)) (Nat.le_refl _) 1 (.int .i64 at_)) (Nat.le_refl _) 2 (.int .i64 0)).drew, none, 0, [], er, at_, rfl, ToksKept.nil _ _ _, Nat.le_refl _, by omega, fun l h => by cases h⟩
   ·have d1 : decide ((k : Int) < (s.size : Int)) = false := decide_eq_false (by omega)
    have g0 := blk_cell HRES.out 0
    have gf0 := blk_frozen HRES.out 0
    have g1 := blk_cell HRES.out 1
    have gf1 := blk_frozen HRES.out 1
    have g2 := blk_cell HRES.out 2
    have gf2 := blk_frozen HRES.out 2
    obtain ⟨lA, lc, rfl, hnc, hcm⟩ := own_slice2 HOWN.out
    go_wp2_with fail
    have hr := three_blk HRES.out (.int .i64 0) (.int .i64 0) (.int .i64 0)
    have q0 := blk_cell hr 0
    have q1 := blk_cell hr 1
    have q2 := blk_cell hr 2
    refine bodyPost_ret (v := .tuple #[.slice lA L.length lc, faultV (0) (0)]) (by simp [results, Try.results16, go_sem, faultV, q0, q1, q2]) rfl ?_
    refine ⟨below_set (below_set (below_set HB.out (Nat.le_refl _) 0 (.int .i64 0)) (Nat.le_refl _) 1 (.int .i64 0)) (Nat.le_refl _) 2 (.int .i64 0), lA, lc, L, 0, 0, rfl, own_kept (R := w.heap.size) (Nat.le_succ _) (S := fun b => w.heap.size + 1 ≤ b) (fun b hb => Nat.le_of_succ_le hb) (own_far (p := ⟨w.heap.size, 2, none⟩) (own_far (p := ⟨w.heap.size, 1, none⟩) (own_far (p := ⟨w.heap.size, 0, none⟩) HOWN.out (by simp) _) (by simp) _) (by simp) _) (fun i t ht => ⟨((((HTOKS.out i t ht).1.mono (T := fun b => w.heap.size + 1 ≤ b) (Nat.le_refl _) (fun b hb _ => ⟨hb.1, rfl⟩)).set (fun b hb => by omega)).set (fun b hb => by omega)).set (fun b hb => by omega), (HTOKS.out i t ht).2⟩) hL, hnc, hcm, fun l h => by cases h⟩
 ·have d0 : decide ((8192 : Int) < (s.size : Int)) = true := decide_eq_true (by omega)
  go_enter Try.func16, Try.ntmps16
  go_wp2
  have hr := blk_new w (.cells #[.int .i64 14, .int .i64 0, .int .i64 0] 28)
  have q0 := blk_cell hr 0
  have q1 := blk_cell hr 1
  have q2 := blk_cell hr 2
  refine bodyPost_ret (v := .tuple #[.slice none 0 0, faultV 14 0]) (by simp [results, Try.results16, go_sem, faultV]) rfl ?_
  exact ⟨(Below.refl _ w).alloc (Nat.le_refl _) (.cells #[.int .i64 14, .int .i64 0, .int .i64 0] 28), none, 0, [], 14, 0, rfl, ToksKept.nil _ _ _, Nat.le_refl _, by omega, fun l h => by cases h⟩
end Go.Proofs.Ytollglblkbjgjaa
