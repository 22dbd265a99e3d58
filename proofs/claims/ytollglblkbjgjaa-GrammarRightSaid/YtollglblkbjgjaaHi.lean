/- Contract of the reference's one word of APL. Conditions: the text is no longer than a million bytes. -/
import Derived.Test.YtollglblkbjgjaaHh
namespace Go.Proofs.Ytollglblkbjgjaa
open Go.RowKit

theorem fixed12_anyL_pos : ∀ w ∈ fixed12_anyL, ∀ x ∈ w.1, 1 ≤ x.size := by decide
theorem chain_le {s : ByteArray} {i : Nat} {k : Int} {x : ByteArray} : ∀ {l : List (List ByteArray × Int)}, chainM s i l = some (k, x) → i + x.size ≤ s.size ∧ ∃ w ∈ l, x ∈ w.1
 | [], h => by cases h
 | (w, q) :: r, h => by
    rw [chainM_cons] at h
    split at h
    ·rename_i y hy
     cases h
     have h1 := List.find?_some hy
     have h2 := List.mem_of_find?_eq_some hy
     exact ⟨starts_le h1, _, List.mem_cons_self, h2⟩
    ·obtain ⟨h1, w', h2, h3⟩ := chain_le h
     exact ⟨h1, w', List.mem_cons_of_mem _ h2, h3⟩
theorem chain_pos {s : ByteArray} {i : Nat} {k : Int} {x : ByteArray} {l : List (List ByteArray × Int)} (hl : ∀ w ∈ l, ∀ x ∈ w.1, 1 ≤ x.size) (h : chainM s i l = some (k, x)) : 1 ≤ x.size := by
 obtain ⟨_, w, h1, h2⟩ := chain_le h
 exact hl w h1 x h2
/-- what is known ahead of a word of APL -/
def oneM12 (s : ByteArray) (i : Nat) : Option (Int × ByteArray × Nat) :=
 if (signM s i).2 = 0 then none
 else if beginsM s i ⟨#[194, 175]⟩ = true then (strand1 s i ⟨#[194, 175]⟩).map fun j => (1, ⟨#[]⟩, j)
 else if bt s i = 39 then none
 else if low12 (bt s i) = true then none
 else (chainM s i fixed12_anyL).map fun p => (p.1, p.2, i + p.2.size)
set_option maxRecDepth 100000 in
set_option maxHeartbeats 16000000 in
theorem one12_any (s : ByteArray) (i : Nat) (w : World) (hs : s.size ≤ 1000000) (hi : i < s.size) : Calls Try.prog 25 #[.string s, .int .i64 (i : Int)] w (WordTo (oneM12 s i) s i w) := by
 obtain ⟨R, HMR⟩ : ∃ R, oneM12 s i = R := ⟨_, rfl⟩
 rw [HMR]
 have HM := Lib.hid HMR
 clear HMR
 have HB := Lib.hid (((Below.refl _ w).alloc (Nat.le_refl _) (.cells #[.int .i64 0, .string ⟨#[]⟩, .slice none 0 0, .slice none 0 0, .int .i64 0] 43)).alloc (by simp) (.cells #[.int .i64 0, .int .i64 0, .int .i64 0] 28))
 have HRES := Lib.hid (blk_alloc (blk_new w (.cells #[.int .i64 0, .string ⟨#[]⟩, .slice none 0 0, .slice none 0 0, .int .i64 0] 43)) (.cells #[.int .i64 0, .int .i64 0, .int .i64 0] 28))
 have hfb := blk_new (w.alloc (.cells #[.int .i64 0, .string ⟨#[]⟩, .slice none 0 0, .slice none 0 0, .int .i64 0] 43)) (.cells #[.int .i64 0, .int .i64 0, .int .i64 0] 28)
 rw [show (w.alloc (.cells #[.int .i64 0, .string ⟨#[]⟩, .slice none 0 0, .slice none 0 0, .int .i64 0] 43)).heap.size = w.heap.size + 1 by simp] at hfb
 have HFB := Lib.hid hfb
 clear hfb
 have hbg := bt_get s i hi
 have hj0 : (0 : Int) ≤ (i : Int) := by omega
 have hj1 : (i : Int) < (s.size : Int) := by omega
 go_enter Try.func25, Try.ntmps25
 go_wp2_with fail
 refine (sign_at s i _ hs (Nat.le_of_lt hi)).mono ?_
 rintro e w1 ⟨rfl, hb1⟩
 have HB1 := Lib.hid (below_then HB.out HB.out.size hb1)
 have HRES1 := Lib.hid (blk_below HRES.out hb1 (blk_lt HRES.out))
 have HFB1 := Lib.hid (blk_below HFB.out hb1 (blk_lt HFB.out))
 clear hb1 HB HRES HFB
 have hres1 := blk_lt HRES1.out
 have hfb1 := blk_lt HFB1.out
 have hb0 := HB1.out.size
 rcases sign_cases hi with hsc | ⟨sn, sk, hsc, hk1, hk4, hks, -⟩
 ·rw [hsc]
  have hR : R = none := by rw [← HM.out, oneM12, hsc]; rfl
  subst hR
  clear hsc
  have r0 := blk_cell HRES1.out 0
  have rf0 := blk_frozen HRES1.out 0
  have r1 := blk_cell HRES1.out 1
  have rf1 := blk_frozen HRES1.out 1
  have r2 := blk_cell HRES1.out 2
  have rf2 := blk_frozen HRES1.out 2
  have r3 := blk_cell HRES1.out 3
  have rf3 := blk_frozen HRES1.out 3
  have r4 := blk_cell HRES1.out 4
  have rf4 := blk_frozen HRES1.out 4
  have g0 := blk_cell HFB1.out 0
  have gf0 := blk_frozen HFB1.out 0
  have g1 := blk_cell HFB1.out 1
  have gf1 := blk_frozen HFB1.out 1
  have g2 := blk_cell HFB1.out 2
  have gf2 := blk_frozen HFB1.out 2
  go_wp2_with fail
  obtain ⟨hr', hf'⟩ := eight_res HRES1.out HFB1.out (by omega) (.int .i64 0) (.string ⟨#[]⟩) (.slice none 0 0) (.slice none 0 0) (.int .i64 0) (.int .i64 3) (.int .i64 (i : Int)) (.int .i64 0)
  have hr := hr'
  have hf := hf'
  clear hr' hf'
  unfold eightSet fiveSet at hr hf
  have q0 := blk_cell hr 0
  have q1 := blk_cell hr 1
  have q2 := blk_cell hr 2
  have q3 := blk_cell hr 3
  have q4 := blk_cell hr 4
  have q5 := blk_cell hf 0
  have q6 := blk_cell hf 1
  have q7 := blk_cell hf 2
  refine bodyPost_ret (v := .tuple #[.agg #[.int .i64 0, .string ⟨#[]⟩, .slice none 0 0, .slice none 0 0, .int .i64 0], .int .i64 (i : Int), faultV (3) ((i : Int))]) (by simp [results, Try.results25, go_sem, faultV, q0, q1, q2, q3, q4, q5, q6, q7]) rfl ?_
  exact ⟨below_eight HB1.out (Nat.le_refl _) (by omega) (.int .i64 0) (.string ⟨#[]⟩) (.slice none 0 0) (.slice none 0 0) (.int .i64 0) (.int .i64 3) (.int .i64 (i : Int)) (.int .i64 0), _, 0, ⟨#[]⟩, 0, i, _, _, rfl, ⟨none, 0, 0, none, 0, 0, ⟨[], []⟩, rfl, lit_none _ _⟩, Nat.zero_le _, .inl (by decide), fun _ _ _ h => by cases h⟩
 ·rw [hsc]
  have bk : ((sk : Int) == 0) = false := beq_eq_false_iff_ne.2 (by omega)
  have HSK := Lib.hid (show (signM s i).2 ≠ 0 by rw [hsc]; show (sk : Int) ≠ 0; omega)
  clear hsc
  go_wp2_with fail
  have HBG := Lib.hid (begins_any s ⟨#[194, 175]⟩ i w1 hs (Nat.le_of_lt hi) (by decide))
  cases hbn : beginsM s i ⟨#[194, 175]⟩ with
  | true =>
   rw [hbn] at HBG
   have HMS := Lib.hid (show R = (strand1 s i ⟨#[194, 175]⟩).map fun j => (1, ⟨#[]⟩, j) by rw [← HM.out, oneM12, if_neg HSK.out, if_pos hbn])
   refine HBG.out.mono ?_
   rintro e wq ⟨rfl, hww⟩
   obtain rfl : w1 = wq := hww.symm
   go_wp2_with fail
   refine (strand_any s ⟨#[194, 175]⟩ (by decide) i w1 hs (Nat.le_of_lt hi) hbn).mono ?_
   rintro e w2 ⟨hb2, v, to, bad, rfl, htv, hbad, hst⟩
   obtain ⟨Az, nz, cz, Bz, mz, dz, tz, rfl, hlz⟩ := htv
   have HLZ := Lib.hid hlz
   have HB2 := Lib.hid (below_then HB1.out HB1.out.size hb2)
   have HRES2 := Lib.hid (blk_below HRES1.out hb2 (blk_lt HRES1.out))
   have HFB2 := Lib.hid (blk_below HFB1.out hb2 (blk_lt HFB1.out))
   have HST := Lib.hid hst
   have hb12 := hb2.size
   clear hb2 hlz hbn hst HRES1 HFB1 HB1 hb0
   have hb0 := HB2.out.size
   have hres2 := blk_lt HRES2.out
   have hfb2 := blk_lt HFB2.out
   have r0 := blk_cell HRES2.out 0
   have rf0 := blk_frozen HRES2.out 0
   have r1 := blk_cell HRES2.out 1
   have rf1 := blk_frozen HRES2.out 1
   have r2 := blk_cell HRES2.out 2
   have rf2 := blk_frozen HRES2.out 2
   have r3 := blk_cell HRES2.out 3
   have rf3 := blk_frozen HRES2.out 3
   have r4 := blk_cell HRES2.out 4
   have rf4 := blk_frozen HRES2.out 4
   have g0 := blk_cell HFB2.out 0
   have gf0 := blk_frozen HFB2.out 0
   have g1 := blk_cell HFB2.out 1
   have gf1 := blk_frozen HFB2.out 1
   have g2 := blk_cell HFB2.out 2
   have gf2 := blk_frozen HFB2.out 2
   rcases hbad with hbad | ⟨rfl, hto, hto2⟩
   ·have d1 : decide ((0 : Int) ≤ bad) = true := decide_eq_true hbad
    go_wp2_with fail
    obtain ⟨hr', hf'⟩ := eight_res HRES2.out HFB2.out (by omega) (.int .i64 1) (.string ⟨#[]⟩) (.slice Az nz cz) (.slice Bz mz dz) (.int .i64 (i : Int)) (.int .i64 2) (.int .i64 bad) (.int .i64 0)
    have hr := blk_alloc (hr') (.cells #[.int .i64 1, .string ⟨#[]⟩, .slice Az nz cz, .slice Bz mz dz, .int .i64 (i : Int)] 43)
    have hf := blk_alloc (hf') (.cells #[.int .i64 1, .string ⟨#[]⟩, .slice Az nz cz, .slice Bz mz dz, .int .i64 (i : Int)] 43)
    clear hr' hf'
    unfold eightSet fiveSet at hr hf
    have q0 := blk_cell hr 0
    have q1 := blk_cell hr 1
    have q2 := blk_cell hr 2
    have q3 := blk_cell hr 3
    have q4 := blk_cell hr 4
    have q5 := blk_cell hf 0
    have q6 := blk_cell hf 1
    have q7 := blk_cell hf 2
    refine bodyPost_ret (v := .tuple #[.agg #[.int .i64 1, .string ⟨#[]⟩, .slice Az nz cz, .slice Bz mz dz, .int .i64 (i : Int)], .int .i64 (to : Int), faultV (2) (bad)]) (by simp [results, Try.results25, go_sem, faultV, q0, q1, q2, q3, q4, q5, q6, q7]) rfl ?_
    exact ⟨(below_eight HB2.out (Nat.le_refl _) (by omega) (.int .i64 1) (.string ⟨#[]⟩) (.slice Az nz cz) (.slice Bz mz dz) (.int .i64 (i : Int)) (.int .i64 2) (.int .i64 bad) (.int .i64 0)).alloc (by simpa [World.setCell, eightSet, fiveSet] using hb0) _, _, 1, ⟨#[]⟩, (i), to, _, _, rfl, ⟨_, _, _, _, _, _, _, rfl, ((HLZ.out.eight (fun b (hb : w1.heap.size ≤ b) => by omega) (fun b (hb : w1.heap.size ≤ b) => by omega) _ _ _ _ _ _ _ _).below ((Below.refl _ _).alloc (Nat.le_refl _) _)).from (fun b (hb : w1.heap.size ≤ b) => by omega)⟩, Nat.zero_le _, .inl (by decide), fun k' x' j h => by rw [HMS.out] at h; obtain ⟨j', h1, h2⟩ := Option.map_eq_some_iff.1 h; have := (HST.out j' h1).1; omega⟩
   ·go_wp2_with fail
    obtain ⟨hr', hf'⟩ := eight_res HRES2.out HFB2.out (by omega) (.int .i64 1) (.string ⟨#[]⟩) (.slice Az nz cz) (.slice Bz mz dz) (.int .i64 (i : Int)) (.int .i64 0) (.int .i64 0) (.int .i64 0)
    have hr := blk_alloc (hr') (.cells #[.int .i64 1, .string ⟨#[]⟩, .slice Az nz cz, .slice Bz mz dz, .int .i64 (i : Int)] 43)
    have hf := blk_alloc (hf') (.cells #[.int .i64 1, .string ⟨#[]⟩, .slice Az nz cz, .slice Bz mz dz, .int .i64 (i : Int)] 43)
    clear hr' hf'
    unfold eightSet fiveSet at hr hf
    have q0 := blk_cell hr 0
    have q1 := blk_cell hr 1
    have q2 := blk_cell hr 2
    have q3 := blk_cell hr 3
    have q4 := blk_cell hr 4
    have q5 := blk_cell hf 0
    have q6 := blk_cell hf 1
    have q7 := blk_cell hf 2
    refine bodyPost_ret (v := .tuple #[.agg #[.int .i64 1, .string ⟨#[]⟩, .slice Az nz cz, .slice Bz mz dz, .int .i64 (i : Int)], .int .i64 (to : Int), faultV (0) (0)]) (by simp [results, Try.results25, go_sem, faultV, q0, q1, q2, q3, q4, q5, q6, q7]) rfl ?_
    exact ⟨(below_eight HB2.out (Nat.le_refl _) (by omega) (.int .i64 1) (.string ⟨#[]⟩) (.slice Az nz cz) (.slice Bz mz dz) (.int .i64 (i : Int)) (.int .i64 0) (.int .i64 0) (.int .i64 0)).alloc (by simpa [World.setCell, eightSet, fiveSet] using hb0) _, _, 1, ⟨#[]⟩, (i), to, _, _, rfl, ⟨_, _, _, _, _, _, _, rfl, ((HLZ.out.eight (fun b (hb : w1.heap.size ≤ b) => by omega) (fun b (hb : w1.heap.size ≤ b) => by omega) _ _ _ _ _ _ _ _).below ((Below.refl _ _).alloc (Nat.le_refl _) _)).from (fun b (hb : w1.heap.size ≤ b) => by omega)⟩, Nat.zero_le _, .inr ⟨rfl, hto, hto2⟩, fun k' x' j h => by rw [HMS.out] at h; obtain ⟨j', h1, h2⟩ := Option.map_eq_some_iff.1 h; cases h2; exact ⟨rfl, rfl, rfl, (HST.out _ h1).2⟩⟩
  | false =>
   rw [hbn] at HBG
   have HBNF := Lib.hid hbn
   refine HBG.out.mono ?_
   rintro e wq ⟨rfl, hww⟩
   obtain rfl : w1 = wq := hww.symm
   clear hbn HBG
   cases h39 : (bt s i == 39) with
   | true =>
    have hR : R = none := by rw [← HM.out, oneM12, if_neg HSK.out, if_neg (by rw [HBNF.out]; decide)]; exact if_pos (beq_iff_eq.1 h39)
    subst hR
    have r0 := blk_cell HRES1.out 0
    have rf0 := blk_frozen HRES1.out 0
    have r1 := blk_cell HRES1.out 1
    have rf1 := blk_frozen HRES1.out 1
    have r2 := blk_cell HRES1.out 2
    have rf2 := blk_frozen HRES1.out 2
    have r3 := blk_cell HRES1.out 3
    have rf3 := blk_frozen HRES1.out 3
    have r4 := blk_cell HRES1.out 4
    have rf4 := blk_frozen HRES1.out 4
    have g0 := blk_cell HFB1.out 0
    have gf0 := blk_frozen HFB1.out 0
    have g1 := blk_cell HFB1.out 1
    have gf1 := blk_frozen HFB1.out 1
    have g2 := blk_cell HFB1.out 2
    have gf2 := blk_frozen HFB1.out 2
    go_wp2_with fail
    refine (quoted_any s i w1 hs hi).mono ?_
    rintro e w2 ⟨hb2, v, qk, qx, qa, to, er, at_, rfl, htv, hxs, hbad, -⟩
    obtain ⟨Az, nz, cz, Bz, mz, dz, tz, rfl, hlz⟩ := htv
    have HLZ := Lib.hid hlz
    have HB2 := Lib.hid (below_then HB1.out HB1.out.size hb2)
    have HRES2 := Lib.hid (blk_below HRES1.out hb2 (blk_lt HRES1.out))
    have HFB2 := Lib.hid (blk_below HFB1.out hb2 (blk_lt HFB1.out))
    have HBAD := Lib.hid hbad
    have hb12 := hb2.size
    clear hb2 hlz hbad HRES1 HFB1 HB1 hb0 r0 rf0 r1 rf1 r2 rf2 r3 rf3 r4 rf4 g0 gf0 g1 gf1 g2 gf2
    have hb0 := HB2.out.size
    have hres2 := blk_lt HRES2.out
    have hfb2 := blk_lt HFB2.out
    unfold faultV
    have r0 := blk_cell HRES2.out 0
    have rf0 := blk_frozen HRES2.out 0
    have r1 := blk_cell HRES2.out 1
    have rf1 := blk_frozen HRES2.out 1
    have r2 := blk_cell HRES2.out 2
    have rf2 := blk_frozen HRES2.out 2
    have r3 := blk_cell HRES2.out 3
    have rf3 := blk_frozen HRES2.out 3
    have r4 := blk_cell HRES2.out 4
    have rf4 := blk_frozen HRES2.out 4
    have g0 := blk_cell HFB2.out 0
    have gf0 := blk_frozen HFB2.out 0
    have g1 := blk_cell HFB2.out 1
    have gf1 := blk_frozen HFB2.out 1
    have g2 := blk_cell HFB2.out 2
    have gf2 := blk_frozen HFB2.out 2
    go_wp2_with fail
    obtain ⟨hr', hf'⟩ := eight_res HRES2.out HFB2.out (by omega) (.int .i64 qk) (.string qx) (.slice Az nz cz) (.slice Bz mz dz) (.int .i64 (qa : Int)) (.int .i64 er) (.int .i64 at_) (.int .i64 0)
    have hr := hr'
    have hf := hf'
    clear hr' hf'
    unfold eightSet fiveSet at hr hf
    have q0 := blk_cell hr 0
    have q1 := blk_cell hr 1
    have q2 := blk_cell hr 2
    have q3 := blk_cell hr 3
    have q4 := blk_cell hr 4
    have q5 := blk_cell hf 0
    have q6 := blk_cell hf 1
    have q7 := blk_cell hf 2
    refine bodyPost_ret (v := .tuple #[.agg #[.int .i64 qk, .string qx, .slice Az nz cz, .slice Bz mz dz, .int .i64 (qa : Int)], .int .i64 (to : Int), faultV (er) (at_)]) (by simp [results, Try.results25, go_sem, faultV, q0, q1, q2, q3, q4, q5, q6, q7]) rfl ?_
    exact ⟨below_eight HB2.out (Nat.le_refl _) (by omega) (.int .i64 qk) (.string qx) (.slice Az nz cz) (.slice Bz mz dz) (.int .i64 (qa : Int)) (.int .i64 er) (.int .i64 at_) (.int .i64 0), _, qk, qx, (qa), to, _, _, rfl, ⟨_, _, _, _, _, _, _, rfl, (HLZ.out.eight (fun b (hb : w1.heap.size ≤ b) => by omega) (fun b (hb : w1.heap.size ≤ b) => by omega) _ _ _ _ _ _ _ _).from (fun b (hb : w1.heap.size ≤ b) => by omega)⟩, hxs, HBAD.out, fun _ _ _ h => by cases h⟩
   | false =>
    have HLT := Lib.hid (fun (c : Int) (w : World) => letter_any c w)
    cases hl : low12 (bt s i) with
    | true =>
     have HL := Lib.hid hl
     clear hl
     have hR : R = none := by rw [← HM.out, oneM12, if_neg HSK.out, if_neg (by rw [HBNF.out]; decide), if_neg (by rw [← beq_iff_eq, h39]; decide), if_pos HL.out]
     subst hR
     go_wp2_with fail
     refine (HLT.out _ _).mono ?_
     rintro e wq ⟨rfl, hww⟩
     obtain rfl : w1 = wq := hww.symm
     rw [HL.out]
     go_wp2_with fail
     refine (word_any s i w1 hs hi).mono ?_
     rintro e w2 ⟨hb2, x, to, rfl, hxs, hto, hto2⟩
     have HB2 := Lib.hid (below_then HB1.out HB1.out.size hb2)
     have HRES2 := Lib.hid (blk_below HRES1.out hb2 (blk_lt HRES1.out))
     have HFB2 := Lib.hid (blk_below HFB1.out hb2 (blk_lt HFB1.out))
     clear hb2 HRES1 HFB1 HB1 hb0
     have hb0 := HB2.out.size
     have hres2 := blk_lt HRES2.out
     have hfb2 := blk_lt HFB2.out
     have r0 := blk_cell HRES2.out 0
     have rf0 := blk_frozen HRES2.out 0
     have r1 := blk_cell HRES2.out 1
     have rf1 := blk_frozen HRES2.out 1
     have r2 := blk_cell HRES2.out 2
     have rf2 := blk_frozen HRES2.out 2
     have r3 := blk_cell HRES2.out 3
     have rf3 := blk_frozen HRES2.out 3
     have r4 := blk_cell HRES2.out 4
     have rf4 := blk_frozen HRES2.out 4
     have g0 := blk_cell HFB2.out 0
     have gf0 := blk_frozen HFB2.out 0
     have g1 := blk_cell HFB2.out 1
     have gf1 := blk_frozen HFB2.out 1
     have g2 := blk_cell HFB2.out 2
     have gf2 := blk_frozen HFB2.out 2
     by_cases h8 : x.size ≤ 8
     ·have d8 : decide ((8 : Int) < (x.size : Int)) = false := decide_eq_false (by omega)
      go_wp2_with fail
      obtain ⟨hr', hf'⟩ := eight_res HRES2.out HFB2.out (by omega) (.int .i64 3) (.string x) (.slice none 0 0) (.slice none 0 0) (.int .i64 (i : Int)) (.int .i64 0) (.int .i64 0) (.int .i64 0)
      have hr := blk_alloc (hr') (.cells #[.int .i64 3, .string x, .slice none 0 0, .slice none 0 0, .int .i64 (i : Int)] 43)
      have hf := blk_alloc (hf') (.cells #[.int .i64 3, .string x, .slice none 0 0, .slice none 0 0, .int .i64 (i : Int)] 43)
      clear hr' hf'
      unfold eightSet fiveSet at hr hf
      have q0 := blk_cell hr 0
      have q1 := blk_cell hr 1
      have q2 := blk_cell hr 2
      have q3 := blk_cell hr 3
      have q4 := blk_cell hr 4
      have q5 := blk_cell hf 0
      have q6 := blk_cell hf 1
      have q7 := blk_cell hf 2
      refine bodyPost_ret (v := .tuple #[.agg #[.int .i64 3, .string x, .slice none 0 0, .slice none 0 0, .int .i64 (i : Int)], .int .i64 (to : Int), faultV (0) (0)]) (by simp [results, Try.results25, go_sem, faultV, q0, q1, q2, q3, q4, q5, q6, q7]) rfl ?_
      exact ⟨(below_eight HB2.out (Nat.le_refl _) (by omega) (.int .i64 3) (.string x) (.slice none 0 0) (.slice none 0 0) (.int .i64 (i : Int)) (.int .i64 0) (.int .i64 0) (.int .i64 0)).alloc (by simpa [World.setCell, eightSet, fiveSet] using hb0) _, _, 3, x, (i), to, _, _, rfl, ⟨none, 0, 0, none, 0, 0, ⟨[], []⟩, rfl, lit_none _ _⟩, hxs, .inr ⟨rfl, hto, hto2⟩, fun _ _ _ h => by cases h⟩
     ·have d8 : decide ((8 : Int) < (x.size : Int)) = true := decide_eq_true (by omega)
      go_wp2_with fail
      obtain ⟨hr', hf'⟩ := eight_res HRES2.out HFB2.out (by omega) (.int .i64 3) (.string x) (.slice none 0 0) (.slice none 0 0) (.int .i64 (i : Int)) (.int .i64 2) (.int .i64 (i : Int)) (.int .i64 0)
      have hr := blk_alloc (hr') (.cells #[.int .i64 3, .string x, .slice none 0 0, .slice none 0 0, .int .i64 (i : Int)] 43)
      have hf := blk_alloc (hf') (.cells #[.int .i64 3, .string x, .slice none 0 0, .slice none 0 0, .int .i64 (i : Int)] 43)
      clear hr' hf'
      unfold eightSet fiveSet at hr hf
      have q0 := blk_cell hr 0
      have q1 := blk_cell hr 1
      have q2 := blk_cell hr 2
      have q3 := blk_cell hr 3
      have q4 := blk_cell hr 4
      have q5 := blk_cell hf 0
      have q6 := blk_cell hf 1
      have q7 := blk_cell hf 2
      refine bodyPost_ret (v := .tuple #[.agg #[.int .i64 3, .string x, .slice none 0 0, .slice none 0 0, .int .i64 (i : Int)], .int .i64 (to : Int), faultV (2) ((i : Int))]) (by simp [results, Try.results25, go_sem, faultV, q0, q1, q2, q3, q4, q5, q6, q7]) rfl ?_
      exact ⟨(below_eight HB2.out (Nat.le_refl _) (by omega) (.int .i64 3) (.string x) (.slice none 0 0) (.slice none 0 0) (.int .i64 (i : Int)) (.int .i64 2) (.int .i64 (i : Int)) (.int .i64 0)).alloc (by simpa [World.setCell, eightSet, fiveSet] using hb0) _, _, 3, x, (i), to, _, _, rfl, ⟨none, 0, 0, none, 0, 0, ⟨[], []⟩, rfl, lit_none _ _⟩, hxs, .inl (by decide), fun _ _ _ h => by cases h⟩
    | false =>
     have HL := Lib.hid hl
     clear hl
     have HMF := Lib.hid (show R = (chainM s i fixed12_anyL).map fun p => (p.1, p.2, i + p.2.size) by rw [← HM.out, oneM12, if_neg HSK.out, if_neg (by rw [HBNF.out]; decide), if_neg (by rw [← beq_iff_eq, h39]; decide), if_neg (by rw [HL.out]; decide)])
     go_wp2_with fail
     refine (HLT.out _ _).mono ?_
     rintro e wq ⟨rfl, hww⟩
     obtain rfl : w1 = wq := hww.symm
     rw [HL.out]
     go_wp2_with fail
     refine (fixed12_any s i w1 hs (Nat.le_of_lt hi)).mono ?_
     rintro e w2 ⟨hb2, hch⟩
     have HB2 := Lib.hid (below_then HB1.out HB1.out.size hb2)
     have HRES2 := Lib.hid (blk_below HRES1.out hb2 (blk_lt HRES1.out))
     have HFB2 := Lib.hid (blk_below HFB1.out hb2 (blk_lt HFB1.out))
     clear hb2 HRES1 HFB1 HB1 hb0
     have hb0 := HB2.out.size
     have hres2 := blk_lt HRES2.out
     have hfb2 := blk_lt HFB2.out
     have r0 := blk_cell HRES2.out 0
     have rf0 := blk_frozen HRES2.out 0
     have r1 := blk_cell HRES2.out 1
     have rf1 := blk_frozen HRES2.out 1
     have r2 := blk_cell HRES2.out 2
     have rf2 := blk_frozen HRES2.out 2
     have r3 := blk_cell HRES2.out 3
     have rf3 := blk_frozen HRES2.out 3
     have r4 := blk_cell HRES2.out 4
     have rf4 := blk_frozen HRES2.out 4
     have g0 := blk_cell HFB2.out 0
     have gf0 := blk_frozen HFB2.out 0
     have g1 := blk_cell HFB2.out 1
     have gf1 := blk_frozen HFB2.out 1
     have g2 := blk_cell HFB2.out 2
     have gf2 := blk_frozen HFB2.out 2
     cases hc : chainM s i fixed12_anyL with
     | none =>
      rw [hc] at hch HMF
      obtain rfl := hch
      clear hc
      go_wp2_with fail
      obtain ⟨hr', hf'⟩ := eight_res HRES2.out HFB2.out (by omega) (.int .i64 0) (.string ⟨#[]⟩) (.slice none 0 0) (.slice none 0 0) (.int .i64 0) (.int .i64 2) (.int .i64 (i : Int)) (.int .i64 0)
      have hr := blk_alloc (hr') (.cells #[.int .i64 0, .string ⟨#[]⟩, .slice none 0 0, .slice none 0 0, .int .i64 0] 43)
      have hf := blk_alloc (hf') (.cells #[.int .i64 0, .string ⟨#[]⟩, .slice none 0 0, .slice none 0 0, .int .i64 0] 43)
      clear hr' hf'
      unfold eightSet fiveSet at hr hf
      have q0 := blk_cell hr 0
      have q1 := blk_cell hr 1
      have q2 := blk_cell hr 2
      have q3 := blk_cell hr 3
      have q4 := blk_cell hr 4
      have q5 := blk_cell hf 0
      have q6 := blk_cell hf 1
      have q7 := blk_cell hf 2
      refine bodyPost_ret (v := .tuple #[.agg #[.int .i64 0, .string ⟨#[]⟩, .slice none 0 0, .slice none 0 0, .int .i64 0], .int .i64 (i : Int), faultV (2) ((i : Int))]) (by simp [results, Try.results25, go_sem, faultV, q0, q1, q2, q3, q4, q5, q6, q7]) rfl ?_
      exact ⟨(below_eight HB2.out (Nat.le_refl _) (by omega) (.int .i64 0) (.string ⟨#[]⟩) (.slice none 0 0) (.slice none 0 0) (.int .i64 0) (.int .i64 2) (.int .i64 (i : Int)) (.int .i64 0)).alloc (by simpa [World.setCell, eightSet, fiveSet] using hb0) _, _, 0, ⟨#[]⟩, 0, i, _, _, rfl, ⟨none, 0, 0, none, 0, 0, ⟨[], []⟩, rfl, lit_none _ _⟩, Nat.zero_le _, .inl (by decide), fun _ _ _ h => by rw [HMF.out] at h; cases h⟩
     | some p =>
      obtain ⟨fk, fx⟩ := p
      rw [hc] at hch HMF
      obtain rfl := hch
      have hcl := chain_le hc
      have hc' := chain_pos fixed12_anyL_pos hc
      have hwf : IntKind.i64.wrap ((i : Int) + (fx.size : Int)) = ((i + fx.size : Nat) : Int) := (wraps_i64 _ (by omega) (by omega)).trans (by omega)
      clear hc
      go_wp2_with fail
      have HB3 := Lib.hid (HB2.out.alloc hb0 (.cells #[.int .i64 fk, .string fx, .slice none 0 0, .slice none 0 0, .int .i64 (i : Int)] 43))
      have HRES3 := Lib.hid (blk_alloc HRES2.out (.cells #[.int .i64 fk, .string fx, .slice none 0 0, .slice none 0 0, .int .i64 (i : Int)] 43))
      have HFB3 := Lib.hid (blk_alloc HFB2.out (.cells #[.int .i64 fk, .string fx, .slice none 0 0, .slice none 0 0, .int .i64 (i : Int)] 43))
      have HTK3 := Lib.hid (blk_new w2 (.cells #[.int .i64 fk, .string fx, .slice none 0 0, .slice none 0 0, .int .i64 (i : Int)] 43))
      clear r0 rf0 r1 rf1 r2 rf2 r3 rf3 r4 rf4 g0 gf0 g1 gf1 g2 gf2 HB2 HRES2 HFB2
      obtain ⟨W3, hW3⟩ : ∃ W, w2.alloc (.cells #[.int .i64 fk, .string fx, .slice none 0 0, .slice none 0 0, .int .i64 (i : Int)] 43) = W := ⟨_, rfl⟩
      rw [hW3] at HB3 HRES3 HFB3 HTK3 ⊢
      clear hW3
      generalize w2.heap.size = bT at *
      have hres3 := blk_lt HRES3.out
      have hfb3 := blk_lt HFB3.out
      have htk3 := blk_lt HTK3.out
      have hb3 := HB3.out.size
      have r0 := blk_cell HRES3.out 0
      have rf0 := blk_frozen HRES3.out 0
      have r1 := blk_cell HRES3.out 1
      have rf1 := blk_frozen HRES3.out 1
      have r2 := blk_cell HRES3.out 2
      have rf2 := blk_frozen HRES3.out 2
      have r3 := blk_cell HRES3.out 3
      have rf3 := blk_frozen HRES3.out 3
      have r4 := blk_cell HRES3.out 4
      have rf4 := blk_frozen HRES3.out 4
      have g0 := blk_cell HFB3.out 0
      have gf0 := blk_frozen HFB3.out 0
      have g1 := blk_cell HFB3.out 1
      have gf1 := blk_frozen HFB3.out 1
      have g2 := blk_cell HFB3.out 2
      have gf2 := blk_frozen HFB3.out 2
      have t0 := blk_cell HTK3.out 0
      have tf0 := blk_frozen HTK3.out 0
      have t1 := blk_cell HTK3.out 1
      have tf1 := blk_frozen HTK3.out 1
      have t2 := blk_cell HTK3.out 2
      have tf2 := blk_frozen HTK3.out 2
      have t3 := blk_cell HTK3.out 3
      have tf3 := blk_frozen HTK3.out 3
      have t4 := blk_cell HTK3.out 4
      have tf4 := blk_frozen HTK3.out 4
      go_region
      all_goals
       go_wp2
       obtain ⟨hr', hf'⟩ := eight_res HRES3.out HFB3.out (by omega) (.int .i64 fk) (.string fx) (.slice none 0 0) (.slice none 0 0) (.int .i64 (i : Int)) (.int .i64 0) (.int .i64 0) (.int .i64 0)
       have hr := blk_drew hr'
       have hf := blk_drew hf'
       clear hr' hf'
       unfold eightSet fiveSet at hr hf
       have q0 := blk_cell hr 0
       have q1 := blk_cell hr 1
       have q2 := blk_cell hr 2
       have q3 := blk_cell hr 3
       have q4 := blk_cell hr 4
       have q5 := blk_cell hf 0
       have q6 := blk_cell hf 1
       have q7 := blk_cell hf 2
       refine bodyPost_ret (v := .tuple #[.agg #[.int .i64 fk, .string fx, .slice none 0 0, .slice none 0 0, .int .i64 (i : Int)], .int .i64 (i + fx.size : Int), faultV (0) (0)]) (by simp [results, Try.results25, go_sem, faultV, q0, q1, q2, q3, q4, q5, q6, q7]) rfl ?_
       exact ⟨(below_eight HB3.out (Nat.le_refl _) (by omega) (.int .i64 fk) (.string fx) (.slice none 0 0) (.slice none 0 0) (.int .i64 (i : Int)) (.int .i64 0) (.int .i64 0) (.int .i64 0)).drew, _, fk, fx, (i), i + fx.size, _, _, rfl, ⟨none, 0, 0, none, 0, 0, ⟨[], []⟩, rfl, lit_none _ _⟩, by have := hcl.1; omega, .inr ⟨rfl, by omega, hcl.1⟩, fun k' x' j h => by rw [HMF.out] at h; cases h; exact ⟨rfl, rfl, rfl, rfl⟩⟩
end Go.Proofs.Ytollglblkbjgjaa
