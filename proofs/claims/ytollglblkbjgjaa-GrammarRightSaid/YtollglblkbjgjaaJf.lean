/- Contract of the reference's word of K. Conditions: a letter stands there. -/
import Derived.Test.YtollglblkbjgjaaHb
import Derived.Test.YtollglblkbjgjaaHg
import Derived.Test.YtollglblkbjgjaaHi
import Derived.Test.YtollglblkbjgjaaHc
import Derived.Test.YtollglblkbjgjaaHe
namespace Go.Proofs.Ytollglblkbjgjaa
open Go.RowKit

theorem letter45_any (c : Int) (w : World) : Calls Try.prog 45 #[.int .u8 c] w (Says (.bool (low26 c)) w) := by
 unfold low26
 by_cases h1 : 97 ≤ c <;> by_cases h2 : c ≤ 122
 all_goals
  go_enter Try.func45, Try.ntmps45
  go_wp2
  go_ret
  exact ⟨by simp [h1, h2], rfl⟩
theorem small51_any (c : Int) (w : World) : Calls Try.prog 51 #[.int .u8 c] w (Says (.bool (low26 c)) w) := by
 unfold low26
 by_cases h1 : 97 ≤ c <;> by_cases h2 : c ≤ 122
 all_goals
  go_enter Try.func51, Try.ntmps51
  go_wp2
  go_ret
  exact ⟨by simp [h1, h2], rfl⟩
end Go.Proofs.Ytollglblkbjgjaa
namespace Go.Proofs.Ytollglblkbjgjaa
open Go.RowKit

/-- what a word of letters and digits of J, K is read as -/
def WordJ (s : ByteArray) (i : Nat) (w : World) (e : Ending) (w' : World) : Prop := Below w.heap.size w w' ∧
 ∃ (k : Int) (x : ByteArray) (to : Nat) (ok : Bool), e = .returned (.tuple #[.agg #[.int .i64 k, .string x, .slice none 0 0, .slice none 0 0, .int .i64 (i : Int)], .int .i64 (to : Int), .bool ok]) ∧ x.size ≤ s.size ∧ i < to ∧ to ≤ s.size
set_option maxRecDepth 100000 in
set_option maxHeartbeats 8000000 in
theorem word46_any (s : ByteArray) (i : Nat) (w : World) (hs : s.size ≤ 1000000) (hi : i < s.size) (hlw : low26 (bt s i) = true) : Calls Try.prog 46 #[.string s, .int .i64 (i : Int)] w (WordJ s i w) := by
 have HLW := Lib.hid hlw
 have HD := Lib.hid (fun (c : Int) (w : World) => digit_any c w)
 have HL := Lib.hid (fun (c : Int) (w : World) => letter45_any c w)
 clear hlw
 go_enter Try.func46, Try.ntmps46
 go_wp2
 go_loopw [7, 8] (fun q bo wr => ∃ (k : Nat) (b : Bool), q = .int .i64 k ∧ bo = .bool b ∧ i ≤ k ∧ k ≤ s.size ∧ Below w.heap.size w wr ∧ wr.heap[w.heap.size]? = some (.cells #[.int .i64 0, .string ⟨#[]⟩, .slice none 0 0, .slice none 0 0, .int .i64 0] 43 (0, 0))) (fun q _ _ => s.size - (intOf q).toNat)
 case atStart => exact ⟨i, true, rfl, rfl, Nat.le_refl _, by omega, (Below.refl _ _).alloc (Nat.le_refl _) _, blk_new w _⟩
 case round =>
  obtain ⟨k, b, rfl, rfl, hik, hk, hb, hres⟩ := hrel
  have HB := Lib.hid hb
  have HRES := Lib.hid hres
  have hres0 := blk_lt hres
  clear hb hres
  by_cases hlt : k < s.size
  ·have hj0 : (0 : Int) ≤ (k : Int) := by omega
   have hj1 : (k : Int) < (s.size : Int) := by omega
   have d1 : decide ((k : Int) < (s.size : Int)) = true := decide_eq_true (by omega)
   have hbg := bt_get s k hlt
   cases hl : low26 (bt s k) with
   | true =>
    have HLT := Lib.hid hl
    clear hl
    go_wp2_with fail
    refine (HL.out _ _).mono ?_
    rintro e w1 ⟨rfl, hww⟩
    obtain rfl : wr = w1 := hww.symm
    rw [HLT.out]
    go_wp2
    all_goals
     go_roundw
     case rel => exact ⟨k + 1, _, by go_num, rfl, by omega, by omega, HB.out, HRES.out⟩
     case measure => simp [intOf]; omega
   | false =>
    have HLT := Lib.hid hl
    clear hl
    have hki : i < k := by
     rcases Nat.lt_or_ge i k with h | h
     ·exact h
     ·exfalso
      obtain rfl : i = k := by omega
      have h1 := HLT.out
      rw [HLW.out] at h1
      cases h1
    cases hd : dig (bt s k) with
    | true =>
     have HDG := Lib.hid hd
     clear hd
     go_wp2_with fail
     refine (HL.out _ _).mono ?_
     rintro e w1 ⟨rfl, hww⟩
     obtain rfl : wr = w1 := hww.symm
     rw [HLT.out]
     go_wp2_with fail
     refine (HD.out _ _).mono ?_
     rintro e w1 ⟨rfl, hww⟩
     obtain rfl : wr = w1 := hww.symm
     rw [HDG.out]
     go_wp2
     all_goals
      go_roundw
      case rel => exact ⟨k + 1, _, by go_num, rfl, by omega, by omega, HB.out, HRES.out⟩
      case measure => simp [intOf]; omega
    | false =>
     have HDG := Lib.hid hd
     clear hd
     have h0 : (0 : Int) ≤ (i : Int) := by omega
     have h1 : (i : Int) ≤ (k : Int) := by omega
     have h2 : (k : Int) ≤ (s.size : Int) := by omega
     have hx : (s.extract i k).size ≤ s.size := by
      obtain ⟨d, rfl⟩ := Nat.exists_eq_add_of_le (show i ≤ k by omega)
      rw [extract_size s i d (by omega)]; omega
     have HX := Lib.hid hx
     clear hx
     go_wp2_with fail
     refine (HL.out _ _).mono ?_
     rintro e w1 ⟨rfl, hww⟩
     obtain rfl : wr = w1 := hww.symm
     rw [HLT.out]
     go_wp2_with fail
     refine (HD.out _ _).mono ?_
     rintro e w1 ⟨rfl, hww⟩
     obtain rfl : wr = w1 := hww.symm
     rw [HDG.out]
     go_wp2_with fail
     obtain ⟨W, hW⟩ : ∃ W, wr.alloc (.cells #[.int .i64 3, .string (s.extract i k), .slice none 0 0, .slice none 0 0, .int .i64 (i : Int)] 43) = W := ⟨_, rfl⟩
     have hbW : Below wr.heap.size wr W := by rw [← hW]; exact (Below.refl _ wr).alloc (Nat.le_refl _) _
     have HT := Lib.hid (show W.heap[wr.heap.size]? = some (.cells #[.int .i64 3, .string (s.extract i k), .slice none 0 0, .slice none 0 0, .int .i64 (i : Int)] 43 (0, 0)) by rw [← hW]; exact blk_new wr _)
     rw [hW]
     have HRESW := Lib.hid (blk_below HRES.out hbW hres0)
     have HBW := Lib.hid (below_then HB.out HB.out.size hbW)
     have hsz := blk_lt HT.out
     clear hbW hW HRES HB
     have HS1 := Lib.hid (starts_any s ⟨#[46]⟩ k W hs (by omega) (by decide))
     have HS2 := Lib.hid (starts_any s ⟨#[58]⟩ k W hs (by omega) (by decide))
     have r0 := blk_cell HRESW.out 0
     have rf0 := blk_frozen HRESW.out 0
     have r1 := blk_cell HRESW.out 1
     have rf1 := blk_frozen HRESW.out 1
     have r2 := blk_cell HRESW.out 2
     have rf2 := blk_frozen HRESW.out 2
     have r3 := blk_cell HRESW.out 3
     have rf3 := blk_frozen HRESW.out 3
     have r4 := blk_cell HRESW.out 4
     have rf4 := blk_frozen HRESW.out 4
     have t0 := blk_cell HT.out 0
     have tf0 := blk_frozen HT.out 0
     have t1 := blk_cell HT.out 1
     have tf1 := blk_frozen HT.out 1
     have t2 := blk_cell HT.out 2
     have tf2 := blk_frozen HT.out 2
     have t3 := blk_cell HT.out 3
     have tf3 := blk_frozen HT.out 3
     have t4 := blk_cell HT.out 4
     have tf4 := blk_frozen HT.out 4
     cases hd1 : startsM s k ⟨#[46]⟩ with
     | true =>
      have hle := starts_le hd1
      have hle2 : k + 1 ≤ s.size := hle
      rw [hd1] at HS1
      clear hd1 hle
      refine HS1.out.mono ?_
      rintro e w1 ⟨rfl, hww⟩
      obtain rfl : W = w1 := hww.symm
      have h3 : (i : Int) ≤ (k : Int) + 1 := by omega
      have h4 : (k : Int) + 1 ≤ (s.size : Int) := by omega
      go_wp2
      obtain ⟨W2, hW2⟩ : ∃ W2, (W.setCell ⟨wr.heap.size, 0, none⟩ (.int .i64 4)).setCell ⟨wr.heap.size, 1, none⟩ (.string (s.extract i (k + 1))) = W2 := ⟨_, rfl⟩
      have HT2 := Lib.hid (show W2.heap[wr.heap.size]? = some (.cells #[.int .i64 4, .string (s.extract i (k + 1)), .slice none 0 0, .slice none 0 0, .int .i64 (i : Int)] 43 (0, 0)) by rw [← hW2]; simpa using blk_set (blk_set HT.out 0 (.int .i64 4)) 1 (.string (s.extract i (k + 1))))
      have HRES2 := Lib.hid (show W2.heap[w.heap.size]? = some (.cells #[.int .i64 0, .string ⟨#[]⟩, .slice none 0 0, .slice none 0 0, .int .i64 0] 43 (0, 0)) by rw [← hW2]; exact blk_far (p := ⟨wr.heap.size, 1, none⟩) (blk_far (p := ⟨wr.heap.size, 0, none⟩) HRESW.out (by simp; omega) _) (by simp; omega) _)
      have HB2 := Lib.hid (show Below w.heap.size w W2 by rw [← hW2]; exact below_set (below_set HBW.out (by omega) 0 _) (by omega) 1 _)
      rw [hW2]
      clear hW2 HT HRESW HBW r0 r1 r2 r3 r4 rf0 rf1 rf2 rf3 rf4 t0 t1 t2 t3 t4 tf0 tf1 tf2 tf3 tf4
      obtain ⟨X, hX⟩ : ∃ X, s.extract i (k + 1) = X := ⟨_, rfl⟩
      have hXs : X.size ≤ s.size := by
       rw [← hX]
       obtain ⟨d, rfl⟩ := Nat.exists_eq_add_of_le (show i ≤ k by omega)
       rw [show i + d + 1 = i + (d + 1) by omega, extract_size s i (d + 1) (by omega)]; omega
      have HXS := Lib.hid hXs
      rw [hX] at HT2 ⊢
      clear hX hXs
      have hwk : IntKind.i64.wrap ((k : Int) + 1) = (k : Int) + 1 := wraps_i64 _ (by omega) (by omega)
      have r0 := blk_cell HRES2.out 0
      have rf0 := blk_frozen HRES2.out 0
      have r1 := blk_cell HRES2.out 1
      have rf1 := blk_frozen HRES2.out 1
      have r2 := blk_cell HRES2.out 2
      have rf2 := blk_frozen HRES2.out 2
      have r3 := blk_cell HRES2.out 3
      have rf3 := blk_frozen HRES2.out 3
      have r4 := blk_cell HRES2.out 4
      have rf4 := blk_frozen HRES2.out 4
      have t0 := blk_cell HT2.out 0
      have tf0 := blk_frozen HT2.out 0
      have t1 := blk_cell HT2.out 1
      have tf1 := blk_frozen HT2.out 1
      have t2 := blk_cell HT2.out 2
      have tf2 := blk_frozen HT2.out 2
      have t3 := blk_cell HT2.out 3
      have tf3 := blk_frozen HT2.out 3
      have t4 := blk_cell HT2.out 4
      have tf4 := blk_frozen HT2.out 4
      cases bq1 : (X.toList == [105, 46]) <;> cases bq2 : (X.toList == [101, 46])
      all_goals
       go_region
       all_goals
        go_wp2
        have hr := blk_drew (five_blk HRES2.out (.int .i64 4) (.string X) (.slice none 0 0) (.slice none 0 0) (.int .i64 (i : Int)))
        unfold fiveSet at hr
        have q0 := blk_cell hr 0
        have q1 := blk_cell hr 1
        have q2 := blk_cell hr 2
        have q3 := blk_cell hr 3
        have q4 := blk_cell hr 4
        refine bodyPost_ret (by simp [results, Try.results46, go_sem, q0, q1, q2, q3, q4]; rfl) rfl ?_
        exact ⟨(below_five HB2.out (Nat.le_refl _) (.int .i64 4) (.string X) (.slice none 0 0) (.slice none 0 0) (.int .i64 (i : Int))).drew, _, _, (k + 1 : Nat), _, rfl, HXS.out, (by omega), (by omega)⟩
     | false =>
      rw [hd1] at HS1
      clear hd1
      cases hd2 : startsM s k ⟨#[58]⟩ with
      | true =>
       have hle := starts_le hd2
       have hle2 : k + 1 ≤ s.size := hle
       rw [hd2] at HS2
       clear hd2 hle
       refine HS1.out.mono ?_
       rintro e w1 ⟨rfl, hww⟩
       obtain rfl : W = w1 := hww.symm
       go_wp2_with fail
       refine HS2.out.mono ?_
       rintro e w1 ⟨rfl, hww⟩
       obtain rfl : W = w1 := hww.symm
       have h3 : (i : Int) ≤ (k : Int) + 1 := by omega
       have h4 : (k : Int) + 1 ≤ (s.size : Int) := by omega
       go_wp2
       obtain ⟨W2, hW2⟩ : ∃ W2, (W.setCell ⟨wr.heap.size, 0, none⟩ (.int .i64 4)).setCell ⟨wr.heap.size, 1, none⟩ (.string (s.extract i (k + 1))) = W2 := ⟨_, rfl⟩
       have HT2 := Lib.hid (show W2.heap[wr.heap.size]? = some (.cells #[.int .i64 4, .string (s.extract i (k + 1)), .slice none 0 0, .slice none 0 0, .int .i64 (i : Int)] 43 (0, 0)) by rw [← hW2]; simpa using blk_set (blk_set HT.out 0 (.int .i64 4)) 1 (.string (s.extract i (k + 1))))
       have HRES2 := Lib.hid (show W2.heap[w.heap.size]? = some (.cells #[.int .i64 0, .string ⟨#[]⟩, .slice none 0 0, .slice none 0 0, .int .i64 0] 43 (0, 0)) by rw [← hW2]; exact blk_far (p := ⟨wr.heap.size, 1, none⟩) (blk_far (p := ⟨wr.heap.size, 0, none⟩) HRESW.out (by simp; omega) _) (by simp; omega) _)
       have HB2 := Lib.hid (show Below w.heap.size w W2 by rw [← hW2]; exact below_set (below_set HBW.out (by omega) 0 _) (by omega) 1 _)
       rw [hW2]
       clear hW2 HT HRESW HBW r0 r1 r2 r3 r4 rf0 rf1 rf2 rf3 rf4 t0 t1 t2 t3 t4 tf0 tf1 tf2 tf3 tf4
       obtain ⟨X, hX⟩ : ∃ X, s.extract i (k + 1) = X := ⟨_, rfl⟩
       have hXs : X.size ≤ s.size := by
        rw [← hX]
        obtain ⟨d, rfl⟩ := Nat.exists_eq_add_of_le (show i ≤ k by omega)
        rw [show i + d + 1 = i + (d + 1) by omega, extract_size s i (d + 1) (by omega)]; omega
       have HXS := Lib.hid hXs
       rw [hX] at HT2 ⊢
       clear hX hXs
       have hwk : IntKind.i64.wrap ((k : Int) + 1) = (k : Int) + 1 := wraps_i64 _ (by omega) (by omega)
       have r0 := blk_cell HRES2.out 0
       have rf0 := blk_frozen HRES2.out 0
       have r1 := blk_cell HRES2.out 1
       have rf1 := blk_frozen HRES2.out 1
       have r2 := blk_cell HRES2.out 2
       have rf2 := blk_frozen HRES2.out 2
       have r3 := blk_cell HRES2.out 3
       have rf3 := blk_frozen HRES2.out 3
       have r4 := blk_cell HRES2.out 4
       have rf4 := blk_frozen HRES2.out 4
       have t0 := blk_cell HT2.out 0
       have tf0 := blk_frozen HT2.out 0
       have t1 := blk_cell HT2.out 1
       have tf1 := blk_frozen HT2.out 1
       have t2 := blk_cell HT2.out 2
       have tf2 := blk_frozen HT2.out 2
       have t3 := blk_cell HT2.out 3
       have tf3 := blk_frozen HT2.out 3
       have t4 := blk_cell HT2.out 4
       have tf4 := blk_frozen HT2.out 4
       cases bq1 : (X.toList == [105, 46]) <;> cases bq2 : (X.toList == [101, 46])
       all_goals
        go_region
        all_goals
         go_wp2
         have hr := blk_drew (five_blk HRES2.out (.int .i64 4) (.string X) (.slice none 0 0) (.slice none 0 0) (.int .i64 (i : Int)))
         unfold fiveSet at hr
         have q0 := blk_cell hr 0
         have q1 := blk_cell hr 1
         have q2 := blk_cell hr 2
         have q3 := blk_cell hr 3
         have q4 := blk_cell hr 4
         refine bodyPost_ret (by simp [results, Try.results46, go_sem, q0, q1, q2, q3, q4]; rfl) rfl ?_
         exact ⟨(below_five HB2.out (Nat.le_refl _) (.int .i64 4) (.string X) (.slice none 0 0) (.slice none 0 0) (.int .i64 (i : Int))).drew, _, _, (k + 1 : Nat), _, rfl, HXS.out, (by omega), (by omega)⟩
      | false =>
       rw [hd2] at HS2
       clear hd2
       refine HS1.out.mono ?_
       rintro e w1 ⟨rfl, hww⟩
       obtain rfl : W = w1 := hww.symm
       go_wp2_with fail
       refine HS2.out.mono ?_
       rintro e w1 ⟨rfl, hww⟩
       obtain rfl : W = w1 := hww.symm
       go_wp2
       obtain ⟨X, hX⟩ : ∃ X, s.extract i k = X := ⟨_, rfl⟩
       rw [hX] at HX HT ⊢
       clear hX r0 r1 r2 r3 r4 rf0 rf1 rf2 rf3 rf4 t0 t1 t2 t3 t4 tf0 tf1 tf2 tf3 tf4
       have r0 := blk_cell HRESW.out 0
       have rf0 := blk_frozen HRESW.out 0
       have r1 := blk_cell HRESW.out 1
       have rf1 := blk_frozen HRESW.out 1
       have r2 := blk_cell HRESW.out 2
       have rf2 := blk_frozen HRESW.out 2
       have r3 := blk_cell HRESW.out 3
       have rf3 := blk_frozen HRESW.out 3
       have r4 := blk_cell HRESW.out 4
       have rf4 := blk_frozen HRESW.out 4
       have t0 := blk_cell HT.out 0
       have tf0 := blk_frozen HT.out 0
       have t1 := blk_cell HT.out 1
       have tf1 := blk_frozen HT.out 1
       have t2 := blk_cell HT.out 2
       have tf2 := blk_frozen HT.out 2
       have t3 := blk_cell HT.out 3
       have tf3 := blk_frozen HT.out 3
       have t4 := blk_cell HT.out 4
       have tf4 := blk_frozen HT.out 4
       cases bq1 : (X.toList == [120]) <;> cases bq2 : (X.toList == [121]) <;> cases b
       all_goals
        go_region
        all_goals
         go_wp2
         have hr := blk_drew (five_blk HRESW.out (.int .i64 3) (.string X) (.slice none 0 0) (.slice none 0 0) (.int .i64 (i : Int)))
         unfold fiveSet at hr
         have q0 := blk_cell hr 0
         have q1 := blk_cell hr 1
         have q2 := blk_cell hr 2
         have q3 := blk_cell hr 3
         have q4 := blk_cell hr 4
         refine bodyPost_ret (by simp [results, Try.results46, go_sem, q0, q1, q2, q3, q4]; rfl) rfl ?_
         exact ⟨(below_five HBW.out (Nat.le_refl _) (.int .i64 3) (.string X) (.slice none 0 0) (.slice none 0 0) (.int .i64 (i : Int))).drew, _, _, k, _, rfl, HX.out, (by omega), (by omega)⟩
  ·have d1 : decide ((k : Int) < (s.size : Int)) = false := decide_eq_false (by omega)
   have hki : i < k := by omega
   have h0 : (0 : Int) ≤ (i : Int) := by omega
   have h1 : (i : Int) ≤ (k : Int) := by omega
   have h2 : (k : Int) ≤ (s.size : Int) := by omega
   have hx : (s.extract i k).size ≤ s.size := by
    obtain ⟨d, rfl⟩ := Nat.exists_eq_add_of_le (show i ≤ k by omega)
    rw [extract_size s i d (by omega)]; omega
   have HX := Lib.hid hx
   clear hx
   go_wp2_with fail
   obtain ⟨W, hW⟩ : ∃ W, wr.alloc (.cells #[.int .i64 3, .string (s.extract i k), .slice none 0 0, .slice none 0 0, .int .i64 (i : Int)] 43) = W := ⟨_, rfl⟩
   have hbW : Below wr.heap.size wr W := by rw [← hW]; exact (Below.refl _ wr).alloc (Nat.le_refl _) _
   have HT := Lib.hid (show W.heap[wr.heap.size]? = some (.cells #[.int .i64 3, .string (s.extract i k), .slice none 0 0, .slice none 0 0, .int .i64 (i : Int)] 43 (0, 0)) by rw [← hW]; exact blk_new wr _)
   rw [hW]
   have HRESW := Lib.hid (blk_below HRES.out hbW hres0)
   have HBW := Lib.hid (below_then HB.out HB.out.size hbW)
   have hsz := blk_lt HT.out
   clear hbW hW HRES HB
   have HS1 := Lib.hid (starts_any s ⟨#[46]⟩ k W hs (by omega) (by decide))
   have HS2 := Lib.hid (starts_any s ⟨#[58]⟩ k W hs (by omega) (by decide))
   have r0 := blk_cell HRESW.out 0
   have rf0 := blk_frozen HRESW.out 0
   have r1 := blk_cell HRESW.out 1
   have rf1 := blk_frozen HRESW.out 1
   have r2 := blk_cell HRESW.out 2
   have rf2 := blk_frozen HRESW.out 2
   have r3 := blk_cell HRESW.out 3
   have rf3 := blk_frozen HRESW.out 3
   have r4 := blk_cell HRESW.out 4
   have rf4 := blk_frozen HRESW.out 4
   have t0 := blk_cell HT.out 0
   have tf0 := blk_frozen HT.out 0
   have t1 := blk_cell HT.out 1
   have tf1 := blk_frozen HT.out 1
   have t2 := blk_cell HT.out 2
   have tf2 := blk_frozen HT.out 2
   have t3 := blk_cell HT.out 3
   have tf3 := blk_frozen HT.out 3
   have t4 := blk_cell HT.out 4
   have tf4 := blk_frozen HT.out 4
   cases hd1 : startsM s k ⟨#[46]⟩ with
   | true =>
    exfalso
    have hle := starts_le hd1
    have hle2 : k + 1 ≤ s.size := hle
    omega
   | false =>
    rw [hd1] at HS1
    clear hd1
    cases hd2 : startsM s k ⟨#[58]⟩ with
    | true =>
     exfalso
     have hle := starts_le hd2
     have hle2 : k + 1 ≤ s.size := hle
     omega
    | false =>
     rw [hd2] at HS2
     clear hd2
     refine HS1.out.mono ?_
     rintro e w1 ⟨rfl, hww⟩
     obtain rfl : W = w1 := hww.symm
     go_wp2_with fail
     refine HS2.out.mono ?_
     rintro e w1 ⟨rfl, hww⟩
     obtain rfl : W = w1 := hww.symm
     go_wp2
     obtain ⟨X, hX⟩ : ∃ X, s.extract i k = X := ⟨_, rfl⟩
     rw [hX] at HX HT ⊢
     clear hX r0 r1 r2 r3 r4 rf0 rf1 rf2 rf3 rf4 t0 t1 t2 t3 t4 tf0 tf1 tf2 tf3 tf4
     have r0 := blk_cell HRESW.out 0
     have rf0 := blk_frozen HRESW.out 0
     have r1 := blk_cell HRESW.out 1
     have rf1 := blk_frozen HRESW.out 1
     have r2 := blk_cell HRESW.out 2
     have rf2 := blk_frozen HRESW.out 2
     have r3 := blk_cell HRESW.out 3
     have rf3 := blk_frozen HRESW.out 3
     have r4 := blk_cell HRESW.out 4
     have rf4 := blk_frozen HRESW.out 4
     have t0 := blk_cell HT.out 0
     have tf0 := blk_frozen HT.out 0
     have t1 := blk_cell HT.out 1
     have tf1 := blk_frozen HT.out 1
     have t2 := blk_cell HT.out 2
     have tf2 := blk_frozen HT.out 2
     have t3 := blk_cell HT.out 3
     have tf3 := blk_frozen HT.out 3
     have t4 := blk_cell HT.out 4
     have tf4 := blk_frozen HT.out 4
     cases bq1 : (X.toList == [120]) <;> cases bq2 : (X.toList == [121]) <;> cases b
     all_goals
      go_region
      all_goals
       go_wp2
       have hr := blk_drew (five_blk HRESW.out (.int .i64 3) (.string X) (.slice none 0 0) (.slice none 0 0) (.int .i64 (i : Int)))
       unfold fiveSet at hr
       have q0 := blk_cell hr 0
       have q1 := blk_cell hr 1
       have q2 := blk_cell hr 2
       have q3 := blk_cell hr 3
       have q4 := blk_cell hr 4
       refine bodyPost_ret (by simp [results, Try.results46, go_sem, q0, q1, q2, q3, q4]; rfl) rfl ?_
       exact ⟨(below_five HBW.out (Nat.le_refl _) (.int .i64 3) (.string X) (.slice none 0 0) (.slice none 0 0) (.int .i64 (i : Int))).drew, _, _, k, _, rfl, HX.out, (by omega), (by omega)⟩
end Go.Proofs.Ytollglblkbjgjaa
namespace Go.Proofs.Ytollglblkbjgjaa
open Go.RowKit

/-- what the reference's fixed of J, K gives, as far as it is wanted -/
def FixJ (s : ByteArray) (i : Nat) (w : World) (e : Ending) (w' : World) : Prop := Below w.heap.size w w' ∧
 ∃ (k : Int) (x : ByteArray) (a : Nat) (ok : Bool), e = .returned (.tuple #[.agg #[.int .i64 k, .string x, .slice none 0 0, .slice none 0 0, .int .i64 (a : Int)], .bool ok]) ∧ x.size ≤ s.size ∧ (ok = true → 1 ≤ x.size ∧ i + x.size ≤ s.size)
theorem fixL_to (A : Option Addr) (c : Nat) (l : List ByteArray) (s : ByteArray) (i : Nat) (K : Int) (w : World) (hS : StrsAt w A l) (hl : l.length ≤ 1000) (hx : ∀ x ∈ l, 1 ≤ x.size ∧ x.size ≤ 1000) (hs : s.size ≤ 1000000) (hi : i ≤ s.size) :
  Calls Try.prog 69 #[.string s, .int .i64 (i : Int), .slice A l.length c, .int .i64 K] w (FixJ s i w) := by
 refine (fixedL_any A c l s i K w hS hl (fun x h => (hx x h).2) hs hi).mono ?_
 rintro e w' ⟨hb, hm⟩
 refine ⟨hb, ?_⟩
 cases hf : l.find? fun x => startsM s i x with
 | none =>
  rw [hf] at hm
  exact ⟨0, ⟨#[]⟩, 0, false, hm, Nat.zero_le _, fun h => by cases h⟩
 | some x =>
  rw [hf] at hm
  have h1 := starts_le (List.find?_some hf)
  exact ⟨K, x, i, true, hm, by omega, fun _ => ⟨(hx x (List.mem_of_find?_eq_some hf)).1, h1⟩⟩
def w13a : List ByteArray := [⟨#[61, 58]⟩]
theorem w13a_len : w13a.length = 1 := rfl
theorem w13a_size : ∀ x ∈ w13a, 1 ≤ x.size ∧ x.size ≤ 1000 := by decide
theorem w13a_new (w : World) : StrsAt (w.alloc (.cells #[.string ⟨#[61, 58]⟩] 9)) (some ⟨w.heap.size, 0, none⟩) w13a := strs_new w w13a
def w13b : List ByteArray := [⟨#[123, 123]⟩, ⟨#[40]⟩]
theorem w13b_len : w13b.length = 2 := rfl
theorem w13b_size : ∀ x ∈ w13b, 1 ≤ x.size ∧ x.size ≤ 1000 := by decide
theorem w13b_new (w : World) : StrsAt (w.alloc (.cells #[.string ⟨#[123, 123]⟩, .string ⟨#[40]⟩] 9)) (some ⟨w.heap.size, 0, none⟩) w13b := strs_new w w13b
def w13c : List ByteArray := [⟨#[125, 125]⟩, ⟨#[41]⟩]
theorem w13c_len : w13c.length = 2 := rfl
theorem w13c_size : ∀ x ∈ w13c, 1 ≤ x.size ∧ x.size ≤ 1000 := by decide
theorem w13c_new (w : World) : StrsAt (w.alloc (.cells #[.string ⟨#[125, 125]⟩, .string ⟨#[41]⟩] 9)) (some ⟨w.heap.size, 0, none⟩) w13c := strs_new w w13c
def w13d : List ByteArray := [⟨#[45, 46]⟩, ⟨#[124, 46]⟩, ⟨#[124, 58]⟩, ⟨#[60, 46]⟩, ⟨#[60, 58]⟩, ⟨#[62, 46]⟩, ⟨#[62, 58]⟩, ⟨#[126, 46]⟩, ⟨#[126, 58]⟩, ⟨#[44, 58]⟩, ⟨#[47, 58]⟩, ⟨#[92, 58]⟩, ⟨#[123, 46]⟩, ⟨#[125, 46]⟩, ⟨#[94, 58]⟩]
theorem w13d_len : w13d.length = 15 := rfl
theorem w13d_size : ∀ x ∈ w13d, 1 ≤ x.size ∧ x.size ≤ 1000 := by decide
theorem w13d_new (w : World) : StrsAt (w.alloc (.cells #[.string ⟨#[45, 46]⟩, .string ⟨#[124, 46]⟩, .string ⟨#[124, 58]⟩, .string ⟨#[60, 46]⟩, .string ⟨#[60, 58]⟩, .string ⟨#[62, 46]⟩, .string ⟨#[62, 58]⟩, .string ⟨#[126, 46]⟩, .string ⟨#[126, 58]⟩, .string ⟨#[44, 58]⟩, .string ⟨#[47, 58]⟩, .string ⟨#[92, 58]⟩, .string ⟨#[123, 46]⟩, .string ⟨#[125, 46]⟩, .string ⟨#[94, 58]⟩] 9)) (some ⟨w.heap.size, 0, none⟩) w13d := strs_new w w13d
def w13e : List ByteArray := [⟨#[45]⟩, ⟨#[42]⟩, ⟨#[124]⟩, ⟨#[37]⟩, ⟨#[43]⟩, ⟨#[60]⟩, ⟨#[62]⟩, ⟨#[61]⟩, ⟨#[126]⟩, ⟨#[36]⟩, ⟨#[35]⟩, ⟨#[44]⟩, ⟨#[47]⟩, ⟨#[92]⟩, ⟨#[123]⟩]
theorem w13e_len : w13e.length = 15 := rfl
theorem w13e_size : ∀ x ∈ w13e, 1 ≤ x.size ∧ x.size ≤ 1000 := by decide
theorem w13e_new (w : World) : StrsAt (w.alloc (.cells #[.string ⟨#[45]⟩, .string ⟨#[42]⟩, .string ⟨#[124]⟩, .string ⟨#[37]⟩, .string ⟨#[43]⟩, .string ⟨#[60]⟩, .string ⟨#[62]⟩, .string ⟨#[61]⟩, .string ⟨#[126]⟩, .string ⟨#[36]⟩, .string ⟨#[35]⟩, .string ⟨#[44]⟩, .string ⟨#[47]⟩, .string ⟨#[92]⟩, .string ⟨#[123]⟩] 9)) (some ⟨w.heap.size, 0, none⟩) w13e := strs_new w w13e
set_option maxRecDepth 100000 in
set_option maxHeartbeats 8000000 in
theorem fixed47_any (s : ByteArray) (i : Nat) (w : World) (hs : s.size ≤ 1000000) (hi : i ≤ s.size) : Calls Try.prog 47 #[.string s, .int .i64 (i : Int)] w (FixJ s i w) := by
 have HB0 := Lib.hid ((Below.refl _ w).alloc (Nat.le_refl _) (.cells #[.int .i64 0, .string ⟨#[]⟩, .slice none 0 0, .slice none 0 0, .int .i64 0] 43))
 have HRES0 := Lib.hid (blk_new w (.cells #[.int .i64 0, .string ⟨#[]⟩, .slice none 0 0, .slice none 0 0, .int .i64 0] 43))
 go_enter Try.func47, Try.ntmps47
 have hs1 := w13a_new (w.alloc (.cells #[.int .i64 0, .string ⟨#[]⟩, .slice none 0 0, .slice none 0 0, .int .i64 0] 43))
 rw [show (w.alloc (.cells #[.int .i64 0, .string ⟨#[]⟩, .slice none 0 0, .slice none 0 0, .int .i64 0] 43)).heap.size = w.heap.size + 1 by simp] at hs1
 have HS1 := Lib.hid hs1
 clear hs1
 go_wp2_with fail
 refine (fixL_to (some ⟨w.heap.size + 1, 0, none⟩) 1 w13a s i 7 _ HS1.out (by rw [w13a_len]; decide) w13a_size hs hi).mono ?_
 rintro e x1 ⟨hb1, fk1, fx1, fa1, ok1, rfl, hxs1, hok1⟩
 have HB1 := Lib.hid (below_then (HB0.out.alloc HB0.out.size (.cells #[.string ⟨#[61, 58]⟩] 9)) (by have := HB0.out.size; simp at this ⊢; omega) hb1)
 have HRES1 := Lib.hid (blk_below (blk_alloc HRES0.out (.cells #[.string ⟨#[61, 58]⟩] 9)) hb1 (by have := blk_lt HRES0.out; simp at this ⊢; omega))
 have HXS1 := Lib.hid hxs1
 have HOK1 := Lib.hid hok1
 clear hb1 HB0 HRES0 HS1 hxs1 hok1
 cases ok1 with
 | true =>
  have hres0 := blk_lt HRES1.out
  have hb0 := HB1.out.size
  have r0 := blk_cell HRES1.out 0
  have rf0 := blk_frozen HRES1.out 0
  have r1 := blk_cell HRES1.out 1
  have rf1 := blk_frozen HRES1.out 1
  have r2 := blk_cell HRES1.out 2
  have rf2 := blk_frozen HRES1.out 2
  have r3 := blk_cell HRES1.out 3
  have rf3 := blk_frozen HRES1.out 3
  have r4 := blk_cell HRES1.out 4
  have rf4 := blk_frozen HRES1.out 4
  go_wp2_with fail
  have hr := blk_alloc (five_blk HRES1.out (.int .i64 fk1) (.string fx1) (.slice none 0 0) (.slice none 0 0) (.int .i64 (fa1 : Int))) (.cells #[.int .i64 fk1, .string fx1, .slice none 0 0, .slice none 0 0, .int .i64 (fa1 : Int)] 43)
  unfold fiveSet at hr
  have q0 := blk_cell hr 0
  have q1 := blk_cell hr 1
  have q2 := blk_cell hr 2
  have q3 := blk_cell hr 3
  have q4 := blk_cell hr 4
  refine bodyPost_ret (v := .tuple #[.agg #[.int .i64 fk1, .string fx1, .slice none 0 0, .slice none 0 0, .int .i64 (fa1 : Int)], .bool true]) (by simp [results, Try.results47, go_sem, q0, q1, q2, q3, q4]) rfl ?_
  exact ⟨(below_five HB1.out (Nat.le_refl _) (.int .i64 fk1) (.string fx1) (.slice none 0 0) (.slice none 0 0) (.int .i64 (fa1 : Int))).alloc (by simpa [World.setCell, fiveSet] using hb0) _, _, _, fa1, true, rfl, HXS1.out, fun _ => HOK1.out trivial⟩
 | false =>
  clear HXS1 HOK1
  have hb0 := HB1.out.size
  have HBN1 := Lib.hid (HB1.out.alloc hb0 (.cells #[.int .i64 fk1, .string fx1, .slice none 0 0, .slice none 0 0, .int .i64 (fa1 : Int)] 43))
  have HRN1 := Lib.hid (blk_alloc HRES1.out (.cells #[.int .i64 fk1, .string fx1, .slice none 0 0, .slice none 0 0, .int .i64 (fa1 : Int)] 43))
  clear HB1 HRES1 hb0
  have hs2 := w13b_new (x1.alloc (.cells #[.int .i64 fk1, .string fx1, .slice none 0 0, .slice none 0 0, .int .i64 (fa1 : Int)] 43))
  rw [show (x1.alloc (.cells #[.int .i64 fk1, .string fx1, .slice none 0 0, .slice none 0 0, .int .i64 (fa1 : Int)] 43)).heap.size = x1.heap.size + 1 by simp] at hs2
  have HS2 := Lib.hid hs2
  clear hs2
  go_wp2_with fail
  refine (fixL_to (some ⟨x1.heap.size + 1, 0, none⟩) 2 w13b s i 5 _ HS2.out (by rw [w13b_len]; decide) w13b_size hs hi).mono ?_
  rintro e x2 ⟨hb2, fk2, fx2, fa2, ok2, rfl, hxs2, hok2⟩
  have HB2 := Lib.hid (below_then (HBN1.out.alloc HBN1.out.size (.cells #[.string ⟨#[123, 123]⟩, .string ⟨#[40]⟩] 9)) (by have := HBN1.out.size; simp at this ⊢; omega) hb2)
  have HRES2 := Lib.hid (blk_below (blk_alloc HRN1.out (.cells #[.string ⟨#[123, 123]⟩, .string ⟨#[40]⟩] 9)) hb2 (by have := blk_lt HRN1.out; simp at this ⊢; omega))
  have HXS2 := Lib.hid hxs2
  have HOK2 := Lib.hid hok2
  clear hb2 HBN1 HRN1 HS2 hxs2 hok2
  cases ok2 with
  | true =>
   have hres0 := blk_lt HRES2.out
   have hb0 := HB2.out.size
   have r0 := blk_cell HRES2.out 0
   have rf0 := blk_frozen HRES2.out 0
   have r1 := blk_cell HRES2.out 1
   have rf1 := blk_frozen HRES2.out 1
   have r2 := blk_cell HRES2.out 2
   have rf2 := blk_frozen HRES2.out 2
   have r3 := blk_cell HRES2.out 3
   have rf3 := blk_frozen HRES2.out 3
   have r4 := blk_cell HRES2.out 4
   have rf4 := blk_frozen HRES2.out 4
   go_wp2_with fail
   have hr := blk_alloc (five_blk HRES2.out (.int .i64 fk2) (.string fx2) (.slice none 0 0) (.slice none 0 0) (.int .i64 (fa2 : Int))) (.cells #[.int .i64 fk2, .string fx2, .slice none 0 0, .slice none 0 0, .int .i64 (fa2 : Int)] 43)
   unfold fiveSet at hr
   have q0 := blk_cell hr 0
   have q1 := blk_cell hr 1
   have q2 := blk_cell hr 2
   have q3 := blk_cell hr 3
   have q4 := blk_cell hr 4
   refine bodyPost_ret (v := .tuple #[.agg #[.int .i64 fk2, .string fx2, .slice none 0 0, .slice none 0 0, .int .i64 (fa2 : Int)], .bool true]) (by simp [results, Try.results47, go_sem, q0, q1, q2, q3, q4]) rfl ?_
   exact ⟨(below_five HB2.out (Nat.le_refl _) (.int .i64 fk2) (.string fx2) (.slice none 0 0) (.slice none 0 0) (.int .i64 (fa2 : Int))).alloc (by simpa [World.setCell, fiveSet] using hb0) _, _, _, fa2, true, rfl, HXS2.out, fun _ => HOK2.out trivial⟩
  | false =>
   clear HXS2 HOK2
   have hb0 := HB2.out.size
   have HBN2 := Lib.hid (HB2.out.alloc hb0 (.cells #[.int .i64 fk2, .string fx2, .slice none 0 0, .slice none 0 0, .int .i64 (fa2 : Int)] 43))
   have HRN2 := Lib.hid (blk_alloc HRES2.out (.cells #[.int .i64 fk2, .string fx2, .slice none 0 0, .slice none 0 0, .int .i64 (fa2 : Int)] 43))
   clear HB2 HRES2 hb0
   have hs3 := w13c_new (x2.alloc (.cells #[.int .i64 fk2, .string fx2, .slice none 0 0, .slice none 0 0, .int .i64 (fa2 : Int)] 43))
   rw [show (x2.alloc (.cells #[.int .i64 fk2, .string fx2, .slice none 0 0, .slice none 0 0, .int .i64 (fa2 : Int)] 43)).heap.size = x2.heap.size + 1 by simp] at hs3
   have HS3 := Lib.hid hs3
   clear hs3
   go_wp2_with fail
   refine (fixL_to (some ⟨x2.heap.size + 1, 0, none⟩) 2 w13c s i 6 _ HS3.out (by rw [w13c_len]; decide) w13c_size hs hi).mono ?_
   rintro e x3 ⟨hb3, fk3, fx3, fa3, ok3, rfl, hxs3, hok3⟩
   have HB3 := Lib.hid (below_then (HBN2.out.alloc HBN2.out.size (.cells #[.string ⟨#[125, 125]⟩, .string ⟨#[41]⟩] 9)) (by have := HBN2.out.size; simp at this ⊢; omega) hb3)
   have HRES3 := Lib.hid (blk_below (blk_alloc HRN2.out (.cells #[.string ⟨#[125, 125]⟩, .string ⟨#[41]⟩] 9)) hb3 (by have := blk_lt HRN2.out; simp at this ⊢; omega))
   have HXS3 := Lib.hid hxs3
   have HOK3 := Lib.hid hok3
   clear hb3 HBN2 HRN2 HS3 hxs3 hok3
   cases ok3 with
   | true =>
    have hres0 := blk_lt HRES3.out
    have hb0 := HB3.out.size
    have r0 := blk_cell HRES3.out 0
    have rf0 := blk_frozen HRES3.out 0
    have r1 := blk_cell HRES3.out 1
    have rf1 := blk_frozen HRES3.out 1
    have r2 := blk_cell HRES3.out 2
    have rf2 := blk_frozen HRES3.out 2
    have r3 := blk_cell HRES3.out 3
    have rf3 := blk_frozen HRES3.out 3
    have r4 := blk_cell HRES3.out 4
    have rf4 := blk_frozen HRES3.out 4
    go_wp2_with fail
    have hr := blk_alloc (five_blk HRES3.out (.int .i64 fk3) (.string fx3) (.slice none 0 0) (.slice none 0 0) (.int .i64 (fa3 : Int))) (.cells #[.int .i64 fk3, .string fx3, .slice none 0 0, .slice none 0 0, .int .i64 (fa3 : Int)] 43)
    unfold fiveSet at hr
    have q0 := blk_cell hr 0
    have q1 := blk_cell hr 1
    have q2 := blk_cell hr 2
    have q3 := blk_cell hr 3
    have q4 := blk_cell hr 4
    refine bodyPost_ret (v := .tuple #[.agg #[.int .i64 fk3, .string fx3, .slice none 0 0, .slice none 0 0, .int .i64 (fa3 : Int)], .bool true]) (by simp [results, Try.results47, go_sem, q0, q1, q2, q3, q4]) rfl ?_
    exact ⟨(below_five HB3.out (Nat.le_refl _) (.int .i64 fk3) (.string fx3) (.slice none 0 0) (.slice none 0 0) (.int .i64 (fa3 : Int))).alloc (by simpa [World.setCell, fiveSet] using hb0) _, _, _, fa3, true, rfl, HXS3.out, fun _ => HOK3.out trivial⟩
   | false =>
    clear HXS3 HOK3
    have hb0 := HB3.out.size
    have HBN3 := Lib.hid (HB3.out.alloc hb0 (.cells #[.int .i64 fk3, .string fx3, .slice none 0 0, .slice none 0 0, .int .i64 (fa3 : Int)] 43))
    have HRN3 := Lib.hid (blk_alloc HRES3.out (.cells #[.int .i64 fk3, .string fx3, .slice none 0 0, .slice none 0 0, .int .i64 (fa3 : Int)] 43))
    clear HB3 HRES3 hb0
    have hs4 := w13d_new (x3.alloc (.cells #[.int .i64 fk3, .string fx3, .slice none 0 0, .slice none 0 0, .int .i64 (fa3 : Int)] 43))
    rw [show (x3.alloc (.cells #[.int .i64 fk3, .string fx3, .slice none 0 0, .slice none 0 0, .int .i64 (fa3 : Int)] 43)).heap.size = x3.heap.size + 1 by simp] at hs4
    have HS4 := Lib.hid hs4
    clear hs4
    go_wp2_with fail
    refine (fixL_to (some ⟨x3.heap.size + 1, 0, none⟩) 15 w13d s i 4 _ HS4.out (by rw [w13d_len]; decide) w13d_size hs hi).mono ?_
    rintro e x4 ⟨hb4, fk4, fx4, fa4, ok4, rfl, hxs4, hok4⟩
    have HB4 := Lib.hid (below_then (HBN3.out.alloc HBN3.out.size (.cells #[.string ⟨#[45, 46]⟩, .string ⟨#[124, 46]⟩, .string ⟨#[124, 58]⟩, .string ⟨#[60, 46]⟩, .string ⟨#[60, 58]⟩, .string ⟨#[62, 46]⟩, .string ⟨#[62, 58]⟩, .string ⟨#[126, 46]⟩, .string ⟨#[126, 58]⟩, .string ⟨#[44, 58]⟩, .string ⟨#[47, 58]⟩, .string ⟨#[92, 58]⟩, .string ⟨#[123, 46]⟩, .string ⟨#[125, 46]⟩, .string ⟨#[94, 58]⟩] 9)) (by have := HBN3.out.size; simp at this ⊢; omega) hb4)
    have HRES4 := Lib.hid (blk_below (blk_alloc HRN3.out (.cells #[.string ⟨#[45, 46]⟩, .string ⟨#[124, 46]⟩, .string ⟨#[124, 58]⟩, .string ⟨#[60, 46]⟩, .string ⟨#[60, 58]⟩, .string ⟨#[62, 46]⟩, .string ⟨#[62, 58]⟩, .string ⟨#[126, 46]⟩, .string ⟨#[126, 58]⟩, .string ⟨#[44, 58]⟩, .string ⟨#[47, 58]⟩, .string ⟨#[92, 58]⟩, .string ⟨#[123, 46]⟩, .string ⟨#[125, 46]⟩, .string ⟨#[94, 58]⟩] 9)) hb4 (by have := blk_lt HRN3.out; simp at this ⊢; omega))
    have HXS4 := Lib.hid hxs4
    have HOK4 := Lib.hid hok4
    clear hb4 HBN3 HRN3 HS4 hxs4 hok4
    cases ok4 with
    | true =>
     have hres0 := blk_lt HRES4.out
     have hb0 := HB4.out.size
     have r0 := blk_cell HRES4.out 0
     have rf0 := blk_frozen HRES4.out 0
     have r1 := blk_cell HRES4.out 1
     have rf1 := blk_frozen HRES4.out 1
     have r2 := blk_cell HRES4.out 2
     have rf2 := blk_frozen HRES4.out 2
     have r3 := blk_cell HRES4.out 3
     have rf3 := blk_frozen HRES4.out 3
     have r4 := blk_cell HRES4.out 4
     have rf4 := blk_frozen HRES4.out 4
     go_wp2_with fail
     have hr := blk_alloc (five_blk HRES4.out (.int .i64 fk4) (.string fx4) (.slice none 0 0) (.slice none 0 0) (.int .i64 (fa4 : Int))) (.cells #[.int .i64 fk4, .string fx4, .slice none 0 0, .slice none 0 0, .int .i64 (fa4 : Int)] 43)
     unfold fiveSet at hr
     have q0 := blk_cell hr 0
     have q1 := blk_cell hr 1
     have q2 := blk_cell hr 2
     have q3 := blk_cell hr 3
     have q4 := blk_cell hr 4
     refine bodyPost_ret (v := .tuple #[.agg #[.int .i64 fk4, .string fx4, .slice none 0 0, .slice none 0 0, .int .i64 (fa4 : Int)], .bool true]) (by simp [results, Try.results47, go_sem, q0, q1, q2, q3, q4]) rfl ?_
     exact ⟨(below_five HB4.out (Nat.le_refl _) (.int .i64 fk4) (.string fx4) (.slice none 0 0) (.slice none 0 0) (.int .i64 (fa4 : Int))).alloc (by simpa [World.setCell, fiveSet] using hb0) _, _, _, fa4, true, rfl, HXS4.out, fun _ => HOK4.out trivial⟩
    | false =>
     clear HXS4 HOK4
     have hb0 := HB4.out.size
     have HBN4 := Lib.hid (HB4.out.alloc hb0 (.cells #[.int .i64 fk4, .string fx4, .slice none 0 0, .slice none 0 0, .int .i64 (fa4 : Int)] 43))
     have HRN4 := Lib.hid (blk_alloc HRES4.out (.cells #[.int .i64 fk4, .string fx4, .slice none 0 0, .slice none 0 0, .int .i64 (fa4 : Int)] 43))
     clear HB4 HRES4 hb0
     have HST := Lib.hid (starts_any s ⟨#[34, 49]⟩ i (x4.alloc (.cells #[.int .i64 fk4, .string fx4, .slice none 0 0, .slice none 0 0, .int .i64 (fa4 : Int)] 43)) hs (by omega) (by decide))
     cases hq : startsM s i ⟨#[34, 49]⟩ with
     | true =>
      have hle : i + 2 ≤ s.size := starts_le hq
      have HL2 := Lib.hid (show (⟨#[34, 49]⟩ : ByteArray).size ≤ s.size from Nat.le_trans (Nat.le_add_left 2 i) hle)
      have HL3 := Lib.hid (show 1 ≤ (⟨#[34, 49]⟩ : ByteArray).size ∧ i + (⟨#[34, 49]⟩ : ByteArray).size ≤ s.size from ⟨by decide, hle⟩)
      rw [hq] at HST
      clear hq
      have hw2 : IntKind.i64.wrap ((i : Int) + 2) = ((i + 2 : Nat) : Int) := (wraps_i64 _ (by omega) (by omega)).trans (by omega)
      by_cases h2 : i + 2 < s.size
      ·have d2 : decide ((s.size : Int) ≤ ((i + 2 : Nat) : Int)) = false := decide_eq_false (by omega)
       have hbg := bt_get s (i + 2) h2
       have hj0 : (0 : Int) ≤ ((i + 2 : Nat) : Int) := by omega
       have hj1 : ((i + 2 : Nat) : Int) < (s.size : Int) := by omega
       have HD := Lib.hid (fun (c : Int) (w : World) => digit_any c w)
       cases hd : dig (bt s (i + 2)) with
       | true =>
        have HDG := Lib.hid hd
        clear hd
        go_wp2_with fail
        refine HST.out.mono ?_
        rintro e wq ⟨rfl, hww⟩
        obtain rfl : (x4.alloc (.cells #[.int .i64 fk4, .string fx4, .slice none 0 0, .slice none 0 0, .int .i64 (fa4 : Int)] 43)) = wq := hww.symm
        go_wp2_with fail
        refine (HD.out _ _).mono ?_
        rintro e wq ⟨rfl, hww⟩
        obtain rfl : (x4.alloc (.cells #[.int .i64 fk4, .string fx4, .slice none 0 0, .slice none 0 0, .int .i64 (fa4 : Int)] 43)) = wq := hww.symm
        rw [HDG.out]
        have hs5 := w13e_new (x4.alloc (.cells #[.int .i64 fk4, .string fx4, .slice none 0 0, .slice none 0 0, .int .i64 (fa4 : Int)] 43))
        rw [show (x4.alloc (.cells #[.int .i64 fk4, .string fx4, .slice none 0 0, .slice none 0 0, .int .i64 (fa4 : Int)] 43)).heap.size = x4.heap.size + 1 by simp] at hs5
        have HS5 := Lib.hid hs5
        clear hs5
        go_wp2_with fail
        refine (fixL_to (some ⟨x4.heap.size + 1, 0, none⟩) 15 w13e s i 4 _ HS5.out (by rw [w13e_len]; decide) w13e_size hs hi).mono ?_
        rintro e x5 ⟨hb5, fk5, fx5, fa5, ok5, rfl, hxs5, hok5⟩
        have HB5 := Lib.hid (below_then (HBN4.out.alloc HBN4.out.size (.cells #[.string ⟨#[45]⟩, .string ⟨#[42]⟩, .string ⟨#[124]⟩, .string ⟨#[37]⟩, .string ⟨#[43]⟩, .string ⟨#[60]⟩, .string ⟨#[62]⟩, .string ⟨#[61]⟩, .string ⟨#[126]⟩, .string ⟨#[36]⟩, .string ⟨#[35]⟩, .string ⟨#[44]⟩, .string ⟨#[47]⟩, .string ⟨#[92]⟩, .string ⟨#[123]⟩] 9)) (by have := HBN4.out.size; simp at this ⊢; omega) hb5)
        have HRES5 := Lib.hid (blk_below (blk_alloc HRN4.out (.cells #[.string ⟨#[45]⟩, .string ⟨#[42]⟩, .string ⟨#[124]⟩, .string ⟨#[37]⟩, .string ⟨#[43]⟩, .string ⟨#[60]⟩, .string ⟨#[62]⟩, .string ⟨#[61]⟩, .string ⟨#[126]⟩, .string ⟨#[36]⟩, .string ⟨#[35]⟩, .string ⟨#[44]⟩, .string ⟨#[47]⟩, .string ⟨#[92]⟩, .string ⟨#[123]⟩] 9)) hb5 (by have := blk_lt HRN4.out; simp at this ⊢; omega))
        have HXS5 := Lib.hid hxs5
        have HOK5 := Lib.hid hok5
        clear hb5 HBN4 HRN4 HS5 hxs5 hok5
        have hres0 := blk_lt HRES5.out
        have r0 := blk_cell HRES5.out 0
        have rf0 := blk_frozen HRES5.out 0
        have r1 := blk_cell HRES5.out 1
        have rf1 := blk_frozen HRES5.out 1
        have r2 := blk_cell HRES5.out 2
        have rf2 := blk_frozen HRES5.out 2
        have r3 := blk_cell HRES5.out 3
        have rf3 := blk_frozen HRES5.out 3
        have r4 := blk_cell HRES5.out 4
        have rf4 := blk_frozen HRES5.out 4
        go_wp2_with fail
        have hr := five_blk HRES5.out (.int .i64 fk5) (.string fx5) (.slice none 0 0) (.slice none 0 0) (.int .i64 (fa5 : Int))
        unfold fiveSet at hr
        have q0 := blk_cell hr 0
        have q1 := blk_cell hr 1
        have q2 := blk_cell hr 2
        have q3 := blk_cell hr 3
        have q4 := blk_cell hr 4
        refine bodyPost_ret (v := .tuple #[.agg #[.int .i64 fk5, .string fx5, .slice none 0 0, .slice none 0 0, .int .i64 (fa5 : Int)], .bool ok5]) (by simp [results, Try.results47, go_sem, q0, q1, q2, q3, q4]) rfl ?_
        exact ⟨below_five HB5.out (Nat.le_refl _) (.int .i64 fk5) (.string fx5) (.slice none 0 0) (.slice none 0 0) (.int .i64 (fa5 : Int)), _, _, fa5, ok5, rfl, HXS5.out, HOK5.out⟩
       | false =>
        have HDG := Lib.hid hd
        clear hd
        go_wp2_with fail
        refine HST.out.mono ?_
        rintro e wq ⟨rfl, hww⟩
        obtain rfl : (x4.alloc (.cells #[.int .i64 fk4, .string fx4, .slice none 0 0, .slice none 0 0, .int .i64 (fa4 : Int)] 43)) = wq := hww.symm
        go_wp2_with fail
        refine (HD.out _ _).mono ?_
        rintro e wq ⟨rfl, hww⟩
        obtain rfl : (x4.alloc (.cells #[.int .i64 fk4, .string fx4, .slice none 0 0, .slice none 0 0, .int .i64 (fa4 : Int)] 43)) = wq := hww.symm
        rw [HDG.out]
        have hres0 := blk_lt HRN4.out
        have hb0 := HBN4.out.size
        have r0 := blk_cell HRN4.out 0
        have rf0 := blk_frozen HRN4.out 0
        have r1 := blk_cell HRN4.out 1
        have rf1 := blk_frozen HRN4.out 1
        have r2 := blk_cell HRN4.out 2
        have rf2 := blk_frozen HRN4.out 2
        have r3 := blk_cell HRN4.out 3
        have rf3 := blk_frozen HRN4.out 3
        have r4 := blk_cell HRN4.out 4
        have rf4 := blk_frozen HRN4.out 4
        go_wp2_with fail
        have hr := five_blk HRN4.out (.int .i64 4) (.string ⟨#[34, 49]⟩) (.slice none 0 0) (.slice none 0 0) (.int .i64 (i : Int))
        unfold fiveSet at hr
        have q0 := blk_cell hr 0
        have q1 := blk_cell hr 1
        have q2 := blk_cell hr 2
        have q3 := blk_cell hr 3
        have q4 := blk_cell hr 4
        refine bodyPost_ret (v := .tuple #[.agg #[.int .i64 4, .string ⟨#[34, 49]⟩, .slice none 0 0, .slice none 0 0, .int .i64 (i : Int)], .bool true]) (by simp [results, Try.results47, go_sem, q0, q1, q2, q3, q4]) rfl ?_
        exact ⟨below_five HBN4.out (Nat.le_refl _) (.int .i64 4) (.string ⟨#[34, 49]⟩) (.slice none 0 0) (.slice none 0 0) (.int .i64 (i : Int)), _, _, i, true, rfl, HL2.out, fun _ => HL3.out⟩
      ·have d2 : decide ((s.size : Int) ≤ ((i + 2 : Nat) : Int)) = true := decide_eq_true (by omega)
       go_wp2_with fail
       refine HST.out.mono ?_
       rintro e wq ⟨rfl, hww⟩
       obtain rfl : (x4.alloc (.cells #[.int .i64 fk4, .string fx4, .slice none 0 0, .slice none 0 0, .int .i64 (fa4 : Int)] 43)) = wq := hww.symm
       have hres0 := blk_lt HRN4.out
       have hb0 := HBN4.out.size
       have r0 := blk_cell HRN4.out 0
       have rf0 := blk_frozen HRN4.out 0
       have r1 := blk_cell HRN4.out 1
       have rf1 := blk_frozen HRN4.out 1
       have r2 := blk_cell HRN4.out 2
       have rf2 := blk_frozen HRN4.out 2
       have r3 := blk_cell HRN4.out 3
       have rf3 := blk_frozen HRN4.out 3
       have r4 := blk_cell HRN4.out 4
       have rf4 := blk_frozen HRN4.out 4
       go_wp2_with fail
       have hr := five_blk HRN4.out (.int .i64 4) (.string ⟨#[34, 49]⟩) (.slice none 0 0) (.slice none 0 0) (.int .i64 (i : Int))
       unfold fiveSet at hr
       have q0 := blk_cell hr 0
       have q1 := blk_cell hr 1
       have q2 := blk_cell hr 2
       have q3 := blk_cell hr 3
       have q4 := blk_cell hr 4
       refine bodyPost_ret (v := .tuple #[.agg #[.int .i64 4, .string ⟨#[34, 49]⟩, .slice none 0 0, .slice none 0 0, .int .i64 (i : Int)], .bool true]) (by simp [results, Try.results47, go_sem, q0, q1, q2, q3, q4]) rfl ?_
       exact ⟨below_five HBN4.out (Nat.le_refl _) (.int .i64 4) (.string ⟨#[34, 49]⟩) (.slice none 0 0) (.slice none 0 0) (.int .i64 (i : Int)), _, _, i, true, rfl, HL2.out, fun _ => HL3.out⟩
     | false =>
      rw [hq] at HST
      clear hq
      go_wp2_with fail
      refine HST.out.mono ?_
      rintro e wq ⟨rfl, hww⟩
      obtain rfl : (x4.alloc (.cells #[.int .i64 fk4, .string fx4, .slice none 0 0, .slice none 0 0, .int .i64 (fa4 : Int)] 43)) = wq := hww.symm
      have hs5 := w13e_new (x4.alloc (.cells #[.int .i64 fk4, .string fx4, .slice none 0 0, .slice none 0 0, .int .i64 (fa4 : Int)] 43))
      rw [show (x4.alloc (.cells #[.int .i64 fk4, .string fx4, .slice none 0 0, .slice none 0 0, .int .i64 (fa4 : Int)] 43)).heap.size = x4.heap.size + 1 by simp] at hs5
      have HS5 := Lib.hid hs5
      clear hs5
      go_wp2_with fail
      refine (fixL_to (some ⟨x4.heap.size + 1, 0, none⟩) 15 w13e s i 4 _ HS5.out (by rw [w13e_len]; decide) w13e_size hs hi).mono ?_
      rintro e x5 ⟨hb5, fk5, fx5, fa5, ok5, rfl, hxs5, hok5⟩
      have HB5 := Lib.hid (below_then (HBN4.out.alloc HBN4.out.size (.cells #[.string ⟨#[45]⟩, .string ⟨#[42]⟩, .string ⟨#[124]⟩, .string ⟨#[37]⟩, .string ⟨#[43]⟩, .string ⟨#[60]⟩, .string ⟨#[62]⟩, .string ⟨#[61]⟩, .string ⟨#[126]⟩, .string ⟨#[36]⟩, .string ⟨#[35]⟩, .string ⟨#[44]⟩, .string ⟨#[47]⟩, .string ⟨#[92]⟩, .string ⟨#[123]⟩] 9)) (by have := HBN4.out.size; simp at this ⊢; omega) hb5)
      have HRES5 := Lib.hid (blk_below (blk_alloc HRN4.out (.cells #[.string ⟨#[45]⟩, .string ⟨#[42]⟩, .string ⟨#[124]⟩, .string ⟨#[37]⟩, .string ⟨#[43]⟩, .string ⟨#[60]⟩, .string ⟨#[62]⟩, .string ⟨#[61]⟩, .string ⟨#[126]⟩, .string ⟨#[36]⟩, .string ⟨#[35]⟩, .string ⟨#[44]⟩, .string ⟨#[47]⟩, .string ⟨#[92]⟩, .string ⟨#[123]⟩] 9)) hb5 (by have := blk_lt HRN4.out; simp at this ⊢; omega))
      have HXS5 := Lib.hid hxs5
      have HOK5 := Lib.hid hok5
      clear hb5 HBN4 HRN4 HS5 hxs5 hok5
      have hres0 := blk_lt HRES5.out
      have r0 := blk_cell HRES5.out 0
      have rf0 := blk_frozen HRES5.out 0
      have r1 := blk_cell HRES5.out 1
      have rf1 := blk_frozen HRES5.out 1
      have r2 := blk_cell HRES5.out 2
      have rf2 := blk_frozen HRES5.out 2
      have r3 := blk_cell HRES5.out 3
      have rf3 := blk_frozen HRES5.out 3
      have r4 := blk_cell HRES5.out 4
      have rf4 := blk_frozen HRES5.out 4
      go_wp2_with fail
      have hr := five_blk HRES5.out (.int .i64 fk5) (.string fx5) (.slice none 0 0) (.slice none 0 0) (.int .i64 (fa5 : Int))
      unfold fiveSet at hr
      have q0 := blk_cell hr 0
      have q1 := blk_cell hr 1
      have q2 := blk_cell hr 2
      have q3 := blk_cell hr 3
      have q4 := blk_cell hr 4
      refine bodyPost_ret (v := .tuple #[.agg #[.int .i64 fk5, .string fx5, .slice none 0 0, .slice none 0 0, .int .i64 (fa5 : Int)], .bool ok5]) (by simp [results, Try.results47, go_sem, q0, q1, q2, q3, q4]) rfl ?_
      exact ⟨below_five HB5.out (Nat.le_refl _) (.int .i64 fk5) (.string fx5) (.slice none 0 0) (.slice none 0 0) (.int .i64 (fa5 : Int)), _, _, fa5, ok5, rfl, HXS5.out, HOK5.out⟩
def w14a : List ByteArray := [⟨#[58]⟩]
theorem w14a_len : w14a.length = 1 := rfl
theorem w14a_size : ∀ x ∈ w14a, 1 ≤ x.size ∧ x.size ≤ 1000 := by decide
theorem w14a_new (w : World) : StrsAt (w.alloc (.cells #[.string ⟨#[58]⟩] 9)) (some ⟨w.heap.size, 0, none⟩) w14a := strs_new w w14a
def w14b : List ByteArray := [⟨#[40]⟩, ⟨#[123]⟩, ⟨#[91]⟩]
theorem w14b_len : w14b.length = 3 := rfl
theorem w14b_size : ∀ x ∈ w14b, 1 ≤ x.size ∧ x.size ≤ 1000 := by decide
theorem w14b_new (w : World) : StrsAt (w.alloc (.cells #[.string ⟨#[40]⟩, .string ⟨#[123]⟩, .string ⟨#[91]⟩] 9)) (some ⟨w.heap.size, 0, none⟩) w14b := strs_new w w14b
def w14c : List ByteArray := [⟨#[41]⟩, ⟨#[125]⟩, ⟨#[93]⟩]
theorem w14c_len : w14c.length = 3 := rfl
theorem w14c_size : ∀ x ∈ w14c, 1 ≤ x.size ∧ x.size ≤ 1000 := by decide
theorem w14c_new (w : World) : StrsAt (w.alloc (.cells #[.string ⟨#[41]⟩, .string ⟨#[125]⟩, .string ⟨#[93]⟩] 9)) (some ⟨w.heap.size, 0, none⟩) w14c := strs_new w w14c
def w14d : List ByteArray := [⟨#[43]⟩, ⟨#[45]⟩, ⟨#[42]⟩, ⟨#[37]⟩, ⟨#[38]⟩, ⟨#[124]⟩, ⟨#[60]⟩, ⟨#[62]⟩, ⟨#[61]⟩, ⟨#[126]⟩, ⟨#[33]⟩, ⟨#[35]⟩, ⟨#[95]⟩, ⟨#[44]⟩, ⟨#[94]⟩, ⟨#[63]⟩, ⟨#[64]⟩, ⟨#[47]⟩, ⟨#[92]⟩]
theorem w14d_len : w14d.length = 19 := rfl
theorem w14d_size : ∀ x ∈ w14d, 1 ≤ x.size ∧ x.size ≤ 1000 := by decide
theorem w14d_new (w : World) : StrsAt (w.alloc (.cells #[.string ⟨#[43]⟩, .string ⟨#[45]⟩, .string ⟨#[42]⟩, .string ⟨#[37]⟩, .string ⟨#[38]⟩, .string ⟨#[124]⟩, .string ⟨#[60]⟩, .string ⟨#[62]⟩, .string ⟨#[61]⟩, .string ⟨#[126]⟩, .string ⟨#[33]⟩, .string ⟨#[35]⟩, .string ⟨#[95]⟩, .string ⟨#[44]⟩, .string ⟨#[94]⟩, .string ⟨#[63]⟩, .string ⟨#[64]⟩, .string ⟨#[47]⟩, .string ⟨#[92]⟩] 9)) (some ⟨w.heap.size, 0, none⟩) w14d := strs_new w w14d
set_option maxRecDepth 100000 in
set_option maxHeartbeats 8000000 in
theorem fixed53_any (s : ByteArray) (i : Nat) (w : World) (hs : s.size ≤ 1000000) (hi : i ≤ s.size) : Calls Try.prog 53 #[.string s, .int .i64 (i : Int)] w (FixJ s i w) := by
 have HB0 := Lib.hid ((Below.refl _ w).alloc (Nat.le_refl _) (.cells #[.int .i64 0, .string ⟨#[]⟩, .slice none 0 0, .slice none 0 0, .int .i64 0] 43))
 have HRES0 := Lib.hid (blk_new w (.cells #[.int .i64 0, .string ⟨#[]⟩, .slice none 0 0, .slice none 0 0, .int .i64 0] 43))
 go_enter Try.func53, Try.ntmps53
 have hs1 := w14a_new (w.alloc (.cells #[.int .i64 0, .string ⟨#[]⟩, .slice none 0 0, .slice none 0 0, .int .i64 0] 43))
 rw [show (w.alloc (.cells #[.int .i64 0, .string ⟨#[]⟩, .slice none 0 0, .slice none 0 0, .int .i64 0] 43)).heap.size = w.heap.size + 1 by simp] at hs1
 have HS1 := Lib.hid hs1
 clear hs1
 go_wp2_with fail
 refine (fixL_to (some ⟨w.heap.size + 1, 0, none⟩) 1 w14a s i 7 _ HS1.out (by rw [w14a_len]; decide) w14a_size hs hi).mono ?_
 rintro e x1 ⟨hb1, fk1, fx1, fa1, ok1, rfl, hxs1, hok1⟩
 have HB1 := Lib.hid (below_then (HB0.out.alloc HB0.out.size (.cells #[.string ⟨#[58]⟩] 9)) (by have := HB0.out.size; simp at this ⊢; omega) hb1)
 have HRES1 := Lib.hid (blk_below (blk_alloc HRES0.out (.cells #[.string ⟨#[58]⟩] 9)) hb1 (by have := blk_lt HRES0.out; simp at this ⊢; omega))
 have HXS1 := Lib.hid hxs1
 have HOK1 := Lib.hid hok1
 clear hb1 HB0 HRES0 HS1 hxs1 hok1
 cases ok1 with
 | true =>
  have hres0 := blk_lt HRES1.out
  have hb0 := HB1.out.size
  have r0 := blk_cell HRES1.out 0
  have rf0 := blk_frozen HRES1.out 0
  have r1 := blk_cell HRES1.out 1
  have rf1 := blk_frozen HRES1.out 1
  have r2 := blk_cell HRES1.out 2
  have rf2 := blk_frozen HRES1.out 2
  have r3 := blk_cell HRES1.out 3
  have rf3 := blk_frozen HRES1.out 3
  have r4 := blk_cell HRES1.out 4
  have rf4 := blk_frozen HRES1.out 4
  go_wp2_with fail
  have hr := blk_alloc (five_blk HRES1.out (.int .i64 fk1) (.string fx1) (.slice none 0 0) (.slice none 0 0) (.int .i64 (fa1 : Int))) (.cells #[.int .i64 fk1, .string fx1, .slice none 0 0, .slice none 0 0, .int .i64 (fa1 : Int)] 43)
  unfold fiveSet at hr
  have q0 := blk_cell hr 0
  have q1 := blk_cell hr 1
  have q2 := blk_cell hr 2
  have q3 := blk_cell hr 3
  have q4 := blk_cell hr 4
  refine bodyPost_ret (v := .tuple #[.agg #[.int .i64 fk1, .string fx1, .slice none 0 0, .slice none 0 0, .int .i64 (fa1 : Int)], .bool true]) (by simp [results, Try.results53, go_sem, q0, q1, q2, q3, q4]) rfl ?_
  exact ⟨(below_five HB1.out (Nat.le_refl _) (.int .i64 fk1) (.string fx1) (.slice none 0 0) (.slice none 0 0) (.int .i64 (fa1 : Int))).alloc (by simpa [World.setCell, fiveSet] using hb0) _, _, _, fa1, true, rfl, HXS1.out, fun _ => HOK1.out trivial⟩
 | false =>
  clear HXS1 HOK1
  have hb0 := HB1.out.size
  have HBN1 := Lib.hid (HB1.out.alloc hb0 (.cells #[.int .i64 fk1, .string fx1, .slice none 0 0, .slice none 0 0, .int .i64 (fa1 : Int)] 43))
  have HRN1 := Lib.hid (blk_alloc HRES1.out (.cells #[.int .i64 fk1, .string fx1, .slice none 0 0, .slice none 0 0, .int .i64 (fa1 : Int)] 43))
  clear HB1 HRES1 hb0
  have hs2 := w14b_new (x1.alloc (.cells #[.int .i64 fk1, .string fx1, .slice none 0 0, .slice none 0 0, .int .i64 (fa1 : Int)] 43))
  rw [show (x1.alloc (.cells #[.int .i64 fk1, .string fx1, .slice none 0 0, .slice none 0 0, .int .i64 (fa1 : Int)] 43)).heap.size = x1.heap.size + 1 by simp] at hs2
  have HS2 := Lib.hid hs2
  clear hs2
  go_wp2_with fail
  refine (fixL_to (some ⟨x1.heap.size + 1, 0, none⟩) 3 w14b s i 5 _ HS2.out (by rw [w14b_len]; decide) w14b_size hs hi).mono ?_
  rintro e x2 ⟨hb2, fk2, fx2, fa2, ok2, rfl, hxs2, hok2⟩
  have HB2 := Lib.hid (below_then (HBN1.out.alloc HBN1.out.size (.cells #[.string ⟨#[40]⟩, .string ⟨#[123]⟩, .string ⟨#[91]⟩] 9)) (by have := HBN1.out.size; simp at this ⊢; omega) hb2)
  have HRES2 := Lib.hid (blk_below (blk_alloc HRN1.out (.cells #[.string ⟨#[40]⟩, .string ⟨#[123]⟩, .string ⟨#[91]⟩] 9)) hb2 (by have := blk_lt HRN1.out; simp at this ⊢; omega))
  have HXS2 := Lib.hid hxs2
  have HOK2 := Lib.hid hok2
  clear hb2 HBN1 HRN1 HS2 hxs2 hok2
  cases ok2 with
  | true =>
   have hres0 := blk_lt HRES2.out
   have hb0 := HB2.out.size
   have r0 := blk_cell HRES2.out 0
   have rf0 := blk_frozen HRES2.out 0
   have r1 := blk_cell HRES2.out 1
   have rf1 := blk_frozen HRES2.out 1
   have r2 := blk_cell HRES2.out 2
   have rf2 := blk_frozen HRES2.out 2
   have r3 := blk_cell HRES2.out 3
   have rf3 := blk_frozen HRES2.out 3
   have r4 := blk_cell HRES2.out 4
   have rf4 := blk_frozen HRES2.out 4
   go_wp2_with fail
   have hr := blk_alloc (five_blk HRES2.out (.int .i64 fk2) (.string fx2) (.slice none 0 0) (.slice none 0 0) (.int .i64 (fa2 : Int))) (.cells #[.int .i64 fk2, .string fx2, .slice none 0 0, .slice none 0 0, .int .i64 (fa2 : Int)] 43)
   unfold fiveSet at hr
   have q0 := blk_cell hr 0
   have q1 := blk_cell hr 1
   have q2 := blk_cell hr 2
   have q3 := blk_cell hr 3
   have q4 := blk_cell hr 4
   refine bodyPost_ret (v := .tuple #[.agg #[.int .i64 fk2, .string fx2, .slice none 0 0, .slice none 0 0, .int .i64 (fa2 : Int)], .bool true]) (by simp [results, Try.results53, go_sem, q0, q1, q2, q3, q4]) rfl ?_
   exact ⟨(below_five HB2.out (Nat.le_refl _) (.int .i64 fk2) (.string fx2) (.slice none 0 0) (.slice none 0 0) (.int .i64 (fa2 : Int))).alloc (by simpa [World.setCell, fiveSet] using hb0) _, _, _, fa2, true, rfl, HXS2.out, fun _ => HOK2.out trivial⟩
  | false =>
   clear HXS2 HOK2
   have hb0 := HB2.out.size
   have HBN2 := Lib.hid (HB2.out.alloc hb0 (.cells #[.int .i64 fk2, .string fx2, .slice none 0 0, .slice none 0 0, .int .i64 (fa2 : Int)] 43))
   have HRN2 := Lib.hid (blk_alloc HRES2.out (.cells #[.int .i64 fk2, .string fx2, .slice none 0 0, .slice none 0 0, .int .i64 (fa2 : Int)] 43))
   clear HB2 HRES2 hb0
   have hs3 := w14c_new (x2.alloc (.cells #[.int .i64 fk2, .string fx2, .slice none 0 0, .slice none 0 0, .int .i64 (fa2 : Int)] 43))
   rw [show (x2.alloc (.cells #[.int .i64 fk2, .string fx2, .slice none 0 0, .slice none 0 0, .int .i64 (fa2 : Int)] 43)).heap.size = x2.heap.size + 1 by simp] at hs3
   have HS3 := Lib.hid hs3
   clear hs3
   go_wp2_with fail
   refine (fixL_to (some ⟨x2.heap.size + 1, 0, none⟩) 3 w14c s i 6 _ HS3.out (by rw [w14c_len]; decide) w14c_size hs hi).mono ?_
   rintro e x3 ⟨hb3, fk3, fx3, fa3, ok3, rfl, hxs3, hok3⟩
   have HB3 := Lib.hid (below_then (HBN2.out.alloc HBN2.out.size (.cells #[.string ⟨#[41]⟩, .string ⟨#[125]⟩, .string ⟨#[93]⟩] 9)) (by have := HBN2.out.size; simp at this ⊢; omega) hb3)
   have HRES3 := Lib.hid (blk_below (blk_alloc HRN2.out (.cells #[.string ⟨#[41]⟩, .string ⟨#[125]⟩, .string ⟨#[93]⟩] 9)) hb3 (by have := blk_lt HRN2.out; simp at this ⊢; omega))
   have HXS3 := Lib.hid hxs3
   have HOK3 := Lib.hid hok3
   clear hb3 HBN2 HRN2 HS3 hxs3 hok3
   cases ok3 with
   | true =>
    have hres0 := blk_lt HRES3.out
    have hb0 := HB3.out.size
    have r0 := blk_cell HRES3.out 0
    have rf0 := blk_frozen HRES3.out 0
    have r1 := blk_cell HRES3.out 1
    have rf1 := blk_frozen HRES3.out 1
    have r2 := blk_cell HRES3.out 2
    have rf2 := blk_frozen HRES3.out 2
    have r3 := blk_cell HRES3.out 3
    have rf3 := blk_frozen HRES3.out 3
    have r4 := blk_cell HRES3.out 4
    have rf4 := blk_frozen HRES3.out 4
    go_wp2_with fail
    have hr := blk_alloc (five_blk HRES3.out (.int .i64 fk3) (.string fx3) (.slice none 0 0) (.slice none 0 0) (.int .i64 (fa3 : Int))) (.cells #[.int .i64 fk3, .string fx3, .slice none 0 0, .slice none 0 0, .int .i64 (fa3 : Int)] 43)
    unfold fiveSet at hr
    have q0 := blk_cell hr 0
    have q1 := blk_cell hr 1
    have q2 := blk_cell hr 2
    have q3 := blk_cell hr 3
    have q4 := blk_cell hr 4
    refine bodyPost_ret (v := .tuple #[.agg #[.int .i64 fk3, .string fx3, .slice none 0 0, .slice none 0 0, .int .i64 (fa3 : Int)], .bool true]) (by simp [results, Try.results53, go_sem, q0, q1, q2, q3, q4]) rfl ?_
    exact ⟨(below_five HB3.out (Nat.le_refl _) (.int .i64 fk3) (.string fx3) (.slice none 0 0) (.slice none 0 0) (.int .i64 (fa3 : Int))).alloc (by simpa [World.setCell, fiveSet] using hb0) _, _, _, fa3, true, rfl, HXS3.out, fun _ => HOK3.out trivial⟩
   | false =>
    clear HXS3 HOK3
    have hb0 := HB3.out.size
    have HBN3 := Lib.hid (HB3.out.alloc hb0 (.cells #[.int .i64 fk3, .string fx3, .slice none 0 0, .slice none 0 0, .int .i64 (fa3 : Int)] 43))
    have HRN3 := Lib.hid (blk_alloc HRES3.out (.cells #[.int .i64 fk3, .string fx3, .slice none 0 0, .slice none 0 0, .int .i64 (fa3 : Int)] 43))
    clear HB3 HRES3 hb0
    have hs4 := w14d_new (x3.alloc (.cells #[.int .i64 fk3, .string fx3, .slice none 0 0, .slice none 0 0, .int .i64 (fa3 : Int)] 43))
    rw [show (x3.alloc (.cells #[.int .i64 fk3, .string fx3, .slice none 0 0, .slice none 0 0, .int .i64 (fa3 : Int)] 43)).heap.size = x3.heap.size + 1 by simp] at hs4
    have HS4 := Lib.hid hs4
    clear hs4
    go_wp2_with fail
    refine (fixL_to (some ⟨x3.heap.size + 1, 0, none⟩) 19 w14d s i 4 _ HS4.out (by rw [w14d_len]; decide) w14d_size hs hi).mono ?_
    rintro e x4 ⟨hb4, fk4, fx4, fa4, ok4, rfl, hxs4, hok4⟩
    have HB4 := Lib.hid (below_then (HBN3.out.alloc HBN3.out.size (.cells #[.string ⟨#[43]⟩, .string ⟨#[45]⟩, .string ⟨#[42]⟩, .string ⟨#[37]⟩, .string ⟨#[38]⟩, .string ⟨#[124]⟩, .string ⟨#[60]⟩, .string ⟨#[62]⟩, .string ⟨#[61]⟩, .string ⟨#[126]⟩, .string ⟨#[33]⟩, .string ⟨#[35]⟩, .string ⟨#[95]⟩, .string ⟨#[44]⟩, .string ⟨#[94]⟩, .string ⟨#[63]⟩, .string ⟨#[64]⟩, .string ⟨#[47]⟩, .string ⟨#[92]⟩] 9)) (by have := HBN3.out.size; simp at this ⊢; omega) hb4)
    have HRES4 := Lib.hid (blk_below (blk_alloc HRN3.out (.cells #[.string ⟨#[43]⟩, .string ⟨#[45]⟩, .string ⟨#[42]⟩, .string ⟨#[37]⟩, .string ⟨#[38]⟩, .string ⟨#[124]⟩, .string ⟨#[60]⟩, .string ⟨#[62]⟩, .string ⟨#[61]⟩, .string ⟨#[126]⟩, .string ⟨#[33]⟩, .string ⟨#[35]⟩, .string ⟨#[95]⟩, .string ⟨#[44]⟩, .string ⟨#[94]⟩, .string ⟨#[63]⟩, .string ⟨#[64]⟩, .string ⟨#[47]⟩, .string ⟨#[92]⟩] 9)) hb4 (by have := blk_lt HRN3.out; simp at this ⊢; omega))
    have HXS4 := Lib.hid hxs4
    have HOK4 := Lib.hid hok4
    clear hb4 HBN3 HRN3 HS4 hxs4 hok4
    have hres0 := blk_lt HRES4.out
    have r0 := blk_cell HRES4.out 0
    have rf0 := blk_frozen HRES4.out 0
    have r1 := blk_cell HRES4.out 1
    have rf1 := blk_frozen HRES4.out 1
    have r2 := blk_cell HRES4.out 2
    have rf2 := blk_frozen HRES4.out 2
    have r3 := blk_cell HRES4.out 3
    have rf3 := blk_frozen HRES4.out 3
    have r4 := blk_cell HRES4.out 4
    have rf4 := blk_frozen HRES4.out 4
    go_wp2_with fail
    have hr := five_blk HRES4.out (.int .i64 fk4) (.string fx4) (.slice none 0 0) (.slice none 0 0) (.int .i64 (fa4 : Int))
    unfold fiveSet at hr
    have q0 := blk_cell hr 0
    have q1 := blk_cell hr 1
    have q2 := blk_cell hr 2
    have q3 := blk_cell hr 3
    have q4 := blk_cell hr 4
    refine bodyPost_ret (v := .tuple #[.agg #[.int .i64 fk4, .string fx4, .slice none 0 0, .slice none 0 0, .int .i64 (fa4 : Int)], .bool ok4]) (by simp [results, Try.results53, go_sem, q0, q1, q2, q3, q4]) rfl ?_
    exact ⟨below_five HB4.out (Nat.le_refl _) (.int .i64 fk4) (.string fx4) (.slice none 0 0) (.slice none 0 0) (.int .i64 (fa4 : Int)), _, _, fa4, ok4, rfl, HXS4.out, HOK4.out⟩
end Go.Proofs.Ytollglblkbjgjaa
namespace Go.Proofs.Ytollglblkbjgjaa
open Go.RowKit

/-- is a sign of less, ahead of which this byte stands, a number's own -/
def kbc (c : Int) : Bool := !(low26 c) && (!(dig c) && (!(c == 41) && (!(c == 93) && (!(c == 125) && !(c == 34)))))
/-- does a number of K begin at a place -/
def kbeg (s : ByteArray) (i : Nat) : Bool :=
 if digAt s i = true then true
 else if (startsM s i ⟨#[45]⟩ && digAt s (i + 1)) = false then false
 else if i = 0 then true
 else kbc (bt s (i - 1))
theorem starts45 {s : ByteArray} {i : Nat} (h : startsM s i ⟨#[45]⟩ = true) : bt s i = 45 := by
 have hle := starts_le h
 unfold startsM at h
 rw [Bool.and_eq_true] at h
 have h2 := beq_iff_eq.1 h.2
 rw [ByteArray.toList_eq, ByteArray.toList_eq] at h2
 have h3 : nb (s.extract i (i + 1)) = [45] := by
  unfold nb
  rw [show (s.extract i (i + 1)).data.toList = [45] from h2]
  rfl
 rw [nb_extract] at h3
 have h4 : ((nb s).drop i).take 1 = [45] := h3
 have h5 := congrArg (fun l => l.getD 0 0) h4
 have hl : i < (nb s).length := by rw [nb_length]; have : i + 1 ≤ s.size := hle; omega
 unfold bt
 rw [List.getD_eq_getElem?_getD] at h5 ⊢
 rw [List.getElem?_take, if_pos (by decide), List.getElem?_drop, Nat.add_zero] at h5
 exact h5
theorem kbeg_dig {s : ByteArray} {i : Nat} (h : kbeg s i = true) : digAt s (numAt s i ⟨#[45]⟩) = true := by
 unfold kbeg at h
 unfold numAt
 cases hst : startsM s i ⟨#[45]⟩ with
 | true =>
  rw [if_pos rfl]
  have h45 := starts45 hst
  cases hd : digAt s i with
  | true =>
   unfold digAt at hd
   rw [Bool.and_eq_true, h45] at hd
   exact absurd hd.2 (by decide)
  | false =>
   rw [hd, if_neg (by decide), hst] at h
   cases h1 : digAt s (i + 1) with
   | true => exact h1
   | false =>
    rw [h1] at h
    simp at h
 | false =>
  rw [if_neg (by decide)]
  cases hd : digAt s i with
  | true => rfl
  | false =>
   rw [hd, if_neg (by decide), hst] at h
   simp at h
set_option maxRecDepth 100000 in
set_option maxHeartbeats 8000000 in
theorem begins48_any (s : ByteArray) (i : Nat) (w : World) (hs : s.size ≤ 1000000) (hi : i ≤ s.size) : Calls Try.prog 48 #[.string s, .int .i64 (i : Int)] w (Says (.bool (kbeg s i)) w) := by
 have HST := Lib.hid (starts_any s ⟨#[45]⟩ i w hs (by omega) (by decide))
 have HD := Lib.hid (fun (c : Int) (w : World) => digit_any c w)
 have HL := Lib.hid (fun (c : Int) (w : World) => small51_any c w)
 have hw1 : IntKind.i64.wrap ((i : Int) + 1) = ((i + 1 : Nat) : Int) := (wraps_i64 _ (by omega) (by omega)).trans (by omega)
 unfold kbeg
 by_cases hlt : i < s.size
 ·have d1 : decide ((i : Int) < (s.size : Int)) = true := decide_eq_true (by omega)
  have hbg := bt_get s i hlt
  have hj0 : (0 : Int) ≤ (i : Int) := by omega
  have hj1 : (i : Int) < (s.size : Int) := by omega
  cases hd : dig (bt s i) with
  | true =>
   have HDG := Lib.hid hd
   rw [show digAt s i = true by unfold digAt; rw [hd, decide_eq_true hlt]; rfl, if_pos rfl]
   clear hd
   go_enter Try.func48, Try.ntmps48
   go_wp2_with fail
   refine (HD.out _ _).mono ?_
   rintro e w1 ⟨rfl, hww⟩
   obtain rfl : w = w1 := hww.symm
   rw [HDG.out]
   go_wp2
   refine bodyPost_ret (v := .bool true) (by simp [results, Try.results48, go_sem]) rfl ?_
   exact ⟨rfl, rfl⟩
  | false =>
   have HDG := Lib.hid hd
   rw [show digAt s i = false by unfold digAt; rw [hd, Bool.and_false], if_neg (by decide)]
   clear hd
   cases hst : startsM s i ⟨#[45]⟩ with
   | false =>
    rw [hst] at HST
    rw [Bool.false_and, if_pos rfl]
    clear hst
    go_enter Try.func48, Try.ntmps48
    go_wp2_with fail
    refine (HD.out _ _).mono ?_
    rintro e w1 ⟨rfl, hww⟩
    obtain rfl : w = w1 := hww.symm
    rw [HDG.out]
    go_wp2_with fail
    refine HST.out.mono ?_
    rintro e w1 ⟨rfl, hww⟩
    obtain rfl : w = w1 := hww.symm
    go_wp2
    refine bodyPost_ret (v := .bool false) (by simp [results, Try.results48, go_sem]) rfl ?_
    exact ⟨rfl, rfl⟩
   | true =>
    have hle : i + 1 ≤ s.size := starts_le hst
    rw [hst] at HST
    rw [Bool.true_and]
    clear hst
    by_cases h2 : i + 1 < s.size
    ·have d2 : decide ((s.size : Int) ≤ ((i + 1 : Nat) : Int)) = false := decide_eq_false (by omega)
     have hbg2 := bt_get s (i + 1) h2
     have hk0 : (0 : Int) ≤ ((i + 1 : Nat) : Int) := by omega
     have hk1 : ((i + 1 : Nat) : Int) < (s.size : Int) := by omega
     cases hd2 : dig (bt s (i + 1)) with
     | false =>
      have HDG2 := Lib.hid hd2
      rw [show digAt s (i + 1) = false by unfold digAt; rw [hd2, Bool.and_false], if_pos rfl]
      clear hd2
      go_enter Try.func48, Try.ntmps48
      go_wp2_with fail
      refine (HD.out _ _).mono ?_
      rintro e w1 ⟨rfl, hww⟩
      obtain rfl : w = w1 := hww.symm
      rw [HDG.out]
      go_wp2_with fail
      refine HST.out.mono ?_
      rintro e w1 ⟨rfl, hww⟩
      obtain rfl : w = w1 := hww.symm
      go_wp2_with fail
      refine (HD.out _ _).mono ?_
      rintro e w1 ⟨rfl, hww⟩
      obtain rfl : w = w1 := hww.symm
      rw [HDG2.out]
      go_wp2
      refine bodyPost_ret (v := .bool false) (by simp [results, Try.results48, go_sem]) rfl ?_
      exact ⟨rfl, rfl⟩
     | true =>
      have HDG2 := Lib.hid hd2
      rw [show digAt s (i + 1) = true by unfold digAt; rw [hd2, decide_eq_true h2]; rfl, if_neg (by decide)]
      clear hd2
      by_cases hz : i = 0
      ·rw [if_pos hz]
       have HZ := Lib.hid hz
       clear hz
       go_enter Try.func48, Try.ntmps48
       go_wp2_with fail
       refine (HD.out _ _).mono ?_
       rintro e w1 ⟨rfl, hww⟩
       obtain rfl : w = w1 := hww.symm
       rw [HDG.out]
       go_wp2_with fail
       refine HST.out.mono ?_
       rintro e w1 ⟨rfl, hww⟩
       obtain rfl : w = w1 := hww.symm
       go_wp2_with fail
       refine (HD.out _ _).mono ?_
       rintro e w1 ⟨rfl, hww⟩
       obtain rfl : w = w1 := hww.symm
       rw [HDG2.out]
       have bz : ((i : Int) == 0) = true := beq_iff_eq.2 (by have := HZ.out; omega)
       go_wp2
       refine bodyPost_ret (v := .bool true) (by simp [results, Try.results48, go_sem]) rfl ?_
       exact ⟨rfl, rfl⟩
      ·have bz : ((i : Int) == 0) = false := beq_eq_false_iff_ne.2 (by omega)
       rw [if_neg hz]
       have hwm : IntKind.i64.wrap ((i : Int) - 1) = ((i - 1 : Nat) : Int) := (wraps_i64 _ (by omega) (by omega)).trans (by omega)
       obtain ⟨m, hm⟩ : ∃ m, i - 1 = m := ⟨_, rfl⟩
       rw [hm] at hwm ⊢
       have hml : m < s.size := by omega
       clear hm
       have hbg3 := bt_get s m hml
       have hm0 : (0 : Int) ≤ (m : Int) := by omega
       have hm1 : (m : Int) < (s.size : Int) := by omega
       unfold kbc
       cases hl3 : low26 (bt s m) with
       | true =>
        have HL3 := Lib.hid hl3
        rw [Bool.not_true, Bool.false_and]
        clear hl3
        go_enter Try.func48, Try.ntmps48
        go_wp2_with fail
        refine (HD.out _ _).mono ?_
        rintro e w1 ⟨rfl, hww⟩
        obtain rfl : w = w1 := hww.symm
        rw [HDG.out]
        go_wp2_with fail
        refine HST.out.mono ?_
        rintro e w1 ⟨rfl, hww⟩
        obtain rfl : w = w1 := hww.symm
        go_wp2_with fail
        refine (HD.out _ _).mono ?_
        rintro e w1 ⟨rfl, hww⟩
        obtain rfl : w = w1 := hww.symm
        rw [HDG2.out]
        go_wp2_with fail
        refine (HL.out _ _).mono ?_
        rintro e w1 ⟨rfl, hww⟩
        obtain rfl : w = w1 := hww.symm
        rw [HL3.out]
        go_wp2
        refine bodyPost_ret (v := .bool false) (by simp [results, Try.results48, go_sem]) rfl ?_
        exact ⟨rfl, rfl⟩
       | false =>
        have HL3 := Lib.hid hl3
        rw [Bool.not_false, Bool.true_and]
        clear hl3
        cases hd3 : dig (bt s m) with
        | true =>
         have HD3 := Lib.hid hd3
         rw [Bool.not_true, Bool.false_and]
         clear hd3
         go_enter Try.func48, Try.ntmps48
         go_wp2_with fail
         refine (HD.out _ _).mono ?_
         rintro e w1 ⟨rfl, hww⟩
         obtain rfl : w = w1 := hww.symm
         rw [HDG.out]
         go_wp2_with fail
         refine HST.out.mono ?_
         rintro e w1 ⟨rfl, hww⟩
         obtain rfl : w = w1 := hww.symm
         go_wp2_with fail
         refine (HD.out _ _).mono ?_
         rintro e w1 ⟨rfl, hww⟩
         obtain rfl : w = w1 := hww.symm
         rw [HDG2.out]
         go_wp2_with fail
         refine (HL.out _ _).mono ?_
         rintro e w1 ⟨rfl, hww⟩
         obtain rfl : w = w1 := hww.symm
         rw [HL3.out]
         go_wp2_with fail
         refine (HD.out _ _).mono ?_
         rintro e w1 ⟨rfl, hww⟩
         obtain rfl : w = w1 := hww.symm
         rw [HD3.out]
         go_wp2
         refine bodyPost_ret (v := .bool false) (by simp [results, Try.results48, go_sem]) rfl ?_
         exact ⟨rfl, rfl⟩
        | false =>
         have HD3 := Lib.hid hd3
         rw [Bool.not_false, Bool.true_and]
         clear hd3
         go_enter Try.func48, Try.ntmps48
         go_wp2_with fail
         refine (HD.out _ _).mono ?_
         rintro e w1 ⟨rfl, hww⟩
         obtain rfl : w = w1 := hww.symm
         rw [HDG.out]
         go_wp2_with fail
         refine HST.out.mono ?_
         rintro e w1 ⟨rfl, hww⟩
         obtain rfl : w = w1 := hww.symm
         go_wp2_with fail
         refine (HD.out _ _).mono ?_
         rintro e w1 ⟨rfl, hww⟩
         obtain rfl : w = w1 := hww.symm
         rw [HDG2.out]
         go_wp2_with fail
         refine (HL.out _ _).mono ?_
         rintro e w1 ⟨rfl, hww⟩
         obtain rfl : w = w1 := hww.symm
         rw [HL3.out]
         go_wp2_with fail
         refine (HD.out _ _).mono ?_
         rintro e w1 ⟨rfl, hww⟩
         obtain rfl : w = w1 := hww.symm
         rw [HD3.out]
         go_wp2
         all_goals
          go_ret
          exact ⟨by first | (simp [bne, Bool.and_assoc]; done) | (simp [*]; done), rfl⟩
    ·have d2 : decide ((s.size : Int) ≤ ((i + 1 : Nat) : Int)) = true := decide_eq_true (by omega)
     rw [show digAt s (i + 1) = false by unfold digAt; rw [decide_eq_false h2]; rfl, if_pos rfl]
     go_enter Try.func48, Try.ntmps48
     go_wp2_with fail
     refine (HD.out _ _).mono ?_
     rintro e w1 ⟨rfl, hww⟩
     obtain rfl : w = w1 := hww.symm
     rw [HDG.out]
     go_wp2_with fail
     refine HST.out.mono ?_
     rintro e w1 ⟨rfl, hww⟩
     obtain rfl : w = w1 := hww.symm
     go_wp2
     refine bodyPost_ret (v := .bool false) (by simp [results, Try.results48, go_sem]) rfl ?_
     exact ⟨rfl, rfl⟩
 ·have d1 : decide ((i : Int) < (s.size : Int)) = false := decide_eq_false (by omega)
  rw [show digAt s i = false by unfold digAt; rw [decide_eq_false hlt]; rfl, if_neg (by decide)]
  cases hst : startsM s i ⟨#[45]⟩ with
  | true =>
   have hle : i + 1 ≤ s.size := starts_le hst
   exact absurd hle (by omega)
  | false =>
   rw [hst] at HST
   rw [Bool.false_and, if_pos rfl]
   clear hst
   go_enter Try.func48, Try.ntmps48
   go_wp2_with fail
   refine HST.out.mono ?_
   rintro e w1 ⟨rfl, hww⟩
   obtain rfl : w = w1 := hww.symm
   go_wp2
   refine bodyPost_ret (v := .bool false) (by simp [results, Try.results48, go_sem]) rfl ?_
   exact ⟨rfl, rfl⟩
end Go.Proofs.Ytollglblkbjgjaa
namespace Go.Proofs.Ytollglblkbjgjaa
open Go.RowKit

set_option maxRecDepth 100000 in
set_option maxHeartbeats 8000000 in
theorem numbers49_any (s : ByteArray) (i : Nat) (w : World) (hs : s.size ≤ 1000000) (hi : i ≤ s.size) (hbg : digAt s (numAt s i (⟨#[45]⟩ : ByteArray)) = true) :
  Calls Try.prog 49 #[.string s, .int .i64 (i : Int)] w (StrandTo (strand1 s i (⟨#[45]⟩ : ByteArray)) s i w) := by
 obtain ⟨i2, hi2, hz2, hs2, hb2⟩ := info_parts info2
 have hps : ((⟨#[45]⟩ : ByteArray)).size ≤ 1000 := (by decide)
 obtain ⟨R1, hR1⟩ : ∃ R1, strand1 s i (⟨#[45]⟩ : ByteArray) = R1 := ⟨_, rfl⟩
 rw [hR1]
 have HR1 := Lib.hid hR1
 have HBG := Lib.hid hbg
 have HS0 := Lib.hid hs
 clear hR1 hbg
 go_enter Try.func49, Try.ntmps49
 go_wp2
 go_loopw [1, 8] (fun q l wr => ∃ (k : Nat) (acc : List Int), q = .int .i64 k ∧ k ≤ s.size ∧ acc.length ≤ k ∧ digAt s (numAt s k (⟨#[45]⟩ : ByteArray)) = true ∧ (k = i ∨ R1 = none) ∧ Below w.heap.size w wr ∧ wr.heap[w.heap.size]? = some (.cells #[.int .i64 0, .string ⟨#[]⟩, .slice none 0 0, .slice none 0 0, .int .i64 0] 43 (0, 0)) ∧ wr.heap[w.heap.size + 1]? = some (.cells #[.int .i64 1, .string ⟨#[]⟩, .slice none 0 0, .slice none 0 0, .int .i64 (i : Int)] 43 (0, 0)) ∧ wr.ownsRow (w.heap.size + 2) 2 1 l acc.length (nums .i64 acc) ∧ i ≤ k) (fun q _ _ => s.size - (intOf q).toNat)
 case atStart =>
  refine ⟨i, [], rfl, hi, Nat.zero_le _, HBG.out, .inl rfl, ((Below.refl _ _).alloc (Nat.le_refl _) _).alloc (by simp) _, blk_alloc (blk_new w _) _, ?_, World.ownsRow_nil _ _ _ _, Nat.le_refl _⟩
  have := blk_new (w.alloc (.cells #[.int .i64 0, .string ⟨#[]⟩, .slice none 0 0, .slice none 0 0, .int .i64 0] 43)) (.cells #[.int .i64 1, .string ⟨#[]⟩, .slice none 0 0, .slice none 0 0, .int .i64 (i : Int)] 43)
  simpa using this
 case round =>
  obtain ⟨k, acc, rfl, hk, hacc, hdg, hk1, hb, hres, htk, hown, hik⟩ := hrel
  have hng := num_grows hdg
  have HK1 := Lib.hid hk1
  have HB := Lib.hid hb
  have HRES := Lib.hid hres
  have HTK := Lib.hid htk
  have HOWN := Lib.hid hown
  have HDG := Lib.hid hdg
  have hres0 := blk_lt hres
  have htk0 := blk_lt htk
  clear hdg hk1 hb hres htk hown
  go_wp2_with fail
  refine (number_any s (⟨#[45]⟩ : ByteArray) k wr hs hk hps).mono ?_
  rintro e w1 ⟨x, ok, rfl, hww, hok⟩
  obtain rfl : wr = w1 := hww.symm
  have HOK := Lib.hid hok
  clear hok
  obtain ⟨j, hj⟩ : ∃ j, digits s (numAt s k (⟨#[45]⟩ : ByteArray)) = j := ⟨_, rfl⟩
  rw [hj] at hng HOK ⊢
  have HJ := Lib.hid hj
  clear hj
  cases ok
  ·have r0 := blk_cell HRES.out 0
   have r1 := blk_cell HRES.out 1
   have r2 := blk_cell HRES.out 2
   have r3 := blk_cell HRES.out 3
   have r4 := blk_cell HRES.out 4
   have f0 := blk_frozen HRES.out 0
   have f1 := blk_frozen HRES.out 1
   have f2 := blk_frozen HRES.out 2
   have f3 := blk_frozen HRES.out 3
   have f4 := blk_frozen HRES.out 4
   have t0 := blk_cell HTK.out 0
   have t1 := blk_cell HTK.out 1
   have t2 := blk_cell HTK.out 2
   have t3 := blk_cell HTK.out 3
   have t4 := blk_cell HTK.out 4
   go_wp2
   have hr := five_blk HRES.out (.int .i64 1) (.string ⟨#[]⟩) (.slice none 0 0) (.slice none 0 0) (.int .i64 (i : Int))
   unfold fiveSet at hr
   have q0 := blk_cell hr 0
   have q1 := blk_cell hr 1
   have q2 := blk_cell hr 2
   have q3 := blk_cell hr 3
   have q4 := blk_cell hr 4
   refine bodyPost_ret (v := .tuple #[.agg #[.int .i64 1, .string ⟨#[]⟩, .slice none 0 0, .slice none 0 0, .int .i64 (i : Int)], .int .i64 (k : Int), .int .i64 (k : Int)]) (by simp [results, Try.results49, go_sem, q0, q1, q2, q3, q4]) rfl ?_
   refine ⟨below_five HB.out (Nat.le_refl _) _ _ _ _ _, _, k, (k : Int), rfl, ⟨none, 0, 0, none, 0, 0, _, rfl, lit_none _ _⟩, .inl (by omega), ?_⟩
   intro jj hjj
   rcases HK1.out with h | h
   ·subst h
    have h1 := HR1.out
    rw [hjj, strand1, HJ.out] at h1
    split at h1
    ·rename_i hc
     exact absurd (HOK.out hc.1) (by decide)
    ·cases h1
   ·rw [h] at hjj; cases hjj
  ·go_wp2_with
    (at_builtin; refine wpList_append_lies _ rfl (.tmp 27) (.tmp 29) 96 rfl (w.heap.size + 2) 2 i2 _ 1 8 Try.underlying96 hi2 hz2 hs2 hb2 rfl (by omega) u8 acc.length (nums .i64 acc) rfl (HOWN.out.alloc _)
        ⟨wr.heap.size, 0, none⟩ 1 1 (nums .i64 [x]) rfl rfl (World.news_of_block (cs := (nums .i64 [x]).toArray) (t := 2) (fr := (0, 0)) (heap_alloc_new wr _)) nums_one (by omega) (by unfold maxLen; omega) (by omega) (by simp; omega) (wr.heap.size + 1) (by simp) ?_; intro gg cap w2 hown2 hgrow hat2 hlt2; have HOWN2 := Lib.hid (show w2.ownsRow (w.heap.size + 2) 2 1 (.slice (some ⟨gg, 0, none⟩) (acc.length + 1) cap) (acc.length + 1) (nums .i64 (acc ++ [x])) by rw [nums_append]; exact hown2); have HB2 := Lib.hid (((HB.out.alloc HB.out.size _).grown hgrow (by have := HB.out.size; simp; omega) (fun b hb => by have := (HOWN.out.lt b hb).1; omega)) : Below w.heap.size w w2); have HRES2 := Lib.hid (blk_grown (blk_alloc HRES.out (Obj.cells (nums .i64 [x]).toArray 2)) hgrow (own_ne HOWN.out (by omega))); have HTK2 := Lib.hid (blk_grown (blk_alloc HTK.out (Obj.cells (nums .i64 [x]).toArray 2)) hgrow (own_ne HOWN.out (by omega))); have hgg := (HOWN2.out.lt gg rfl).1)
   have HNX := Lib.hid (blanks_any s j w2 hs hng.2)
   have hnx := blanks_le hng.2
   obtain ⟨nx, hnxe⟩ : ∃ x, blanks s j = x := ⟨_, rfl⟩
   rw [hnxe] at HNX hnx
   have HNE := Lib.hid hnxe
   clear hnxe
   have HRW2 := Lib.hid (show RowAt .i64 w2 (some ⟨gg, 0, none⟩) (acc ++ [x]) by
    obtain ⟨A, c, hv, _, _, _, _, hrow⟩ := own_row HOWN2.out
    cases hv
    exact hrow)
   have hbs2 := blk_lt HRES2.out
   have htb2 := blk_lt HTK2.out
   have HLEN := Lib.hid (show (acc ++ [x]).length = acc.length + 1 by simp)
   have hB2 := HB2.out.size
   clear hown2 hgrow hat2 hlt2 hres0 htk0
   by_cases hnj : nx = j
   ·subst hnj
    have b1 : ((nx : Int) == (nx : Int)) = true := beq_iff_eq.2 rfl
    go_wp2_with fail
    refine HNX.out.mono ?_
    rintro e w3 ⟨rfl, hww⟩
    obtain rfl : w2 = w3 := hww.symm
    go_wp2_with fail
    refine (rnums_any _ _ cap (acc ++ [x]) w2 HRW2.out HLEN.out (by omega)).mono ?_
    rintro e w4 ⟨v4, rfl, hlit4, hb4⟩
    obtain ⟨A4, n4, c4, B4, m4, d4, rfl⟩ := hlit4.form
    have HLIT4 := Lib.hid hlit4
    have HB4 := Lib.hid (HB2.out.trans (hb4.mono HB2.out.size))
    have HRES4 := Lib.hid (blk_below HRES2.out hb4 hbs2)
    have HTK4 := Lib.hid (blk_below HTK2.out hb4 htb2)
    have HRW4 := Lib.hid (HRW2.out.below hb4)
    have hs24 := hb4.size
    clear hlit4 hb4
    have hbs4 := blk_lt HRES4.out
    have htb4 := blk_lt HTK4.out
    have t0 := blk_cell HTK4.out 0
    have tf0 := blk_frozen HTK4.out 0
    have t1 := blk_cell HTK4.out 1
    have tf1 := blk_frozen HTK4.out 1
    have t2 := blk_cell HTK4.out 2
    have tf2 := blk_frozen HTK4.out 2
    have t3 := blk_cell HTK4.out 3
    have tf3 := blk_frozen HTK4.out 3
    have t4 := blk_cell HTK4.out 4
    have tf4 := blk_frozen HTK4.out 4
    have r0 := blk_cell HRES4.out 0
    have rf0 := blk_frozen HRES4.out 0
    have r1 := blk_cell HRES4.out 1
    have rf1 := blk_frozen HRES4.out 1
    have r2 := blk_cell HRES4.out 2
    have rf2 := blk_frozen HRES4.out 2
    have r3 := blk_cell HRES4.out 3
    have rf3 := blk_frozen HRES4.out 3
    have r4 := blk_cell HRES4.out 4
    have rf4 := blk_frozen HRES4.out 4
    by_cases hone : acc.length = 0
    ·obtain rfl : acc = [] := List.length_eq_zero_iff.1 hone
     have cx : w4.cell? ⟨gg, 0, none⟩ = some (.int .i64 x) := by
      obtain ⟨b, off, e, hc⟩ := HRW4.out.2 (by simp)
      cases e
      simpa using hc 0 (by simp)
     have hne1 : ¬ gg = w.heap.size + 1 := by omega
     have hne1' : ¬ w.heap.size + 1 = gg := by omega
     clear hone
     go_wp2_with fail
     have HB5 := Lib.hid (below_set (below_set HB4.out (g := w.heap.size + 1) (by omega) 2 (.slice A4 n4 c4)) (g := w.heap.size + 1) (by omega) 3 (.slice B4 m4 d4))
     have HRES5 := Lib.hid (blk_far (p := ⟨w.heap.size + 1, 3, none⟩) (blk_far (p := ⟨w.heap.size + 1, 2, none⟩) HRES4.out (by simp) (.slice A4 n4 c4)) (by simp) (.slice B4 m4 d4))
     have HTK5 := Lib.hid (show ((w4.setCell ⟨w.heap.size + 1, 2, none⟩ (.slice A4 n4 c4)).setCell ⟨w.heap.size + 1, 3, none⟩ (.slice B4 m4 d4)).heap[w.heap.size + 1]? = some (.cells #[.int .i64 1, .string ⟨#[]⟩, .slice A4 n4 c4, .slice B4 m4 d4, .int .i64 (i : Int)] 43 (0, 0)) by simpa using blk_set (blk_set HTK4.out 2 (.slice A4 n4 c4)) 3 (.slice B4 m4 d4))
     obtain ⟨W5, hW5⟩ : ∃ W, (w4.setCell ⟨w.heap.size + 1, 2, none⟩ (.slice A4 n4 c4)).setCell ⟨w.heap.size + 1, 3, none⟩ (.slice B4 m4 d4) = W := ⟨_, rfl⟩
     rw [hW5] at HB5 HRES5 HTK5 ⊢
     clear hW5 t0 tf0 r0 rf0 t1 tf1 r1 rf1 t2 tf2 r2 rf2 t3 tf3 r3 rf3 t4 tf4 r4 rf4 HRW4 HRW2 HLIT4 cx
     refine (atom_any x W5).mono ?_
     rintro e w6 ⟨v6, rfl, hlit6, hb6⟩
     obtain ⟨A6, n6, c6, B6, m6, d6, rfl⟩ := hlit6.form
     have hbs5 := blk_lt HRES5.out
     have htb5 := blk_lt HTK5.out
     have HRES6 := Lib.hid (blk_below HRES5.out hb6 hbs5)
     have HTK6 := Lib.hid (blk_below HTK5.out hb6 htb5)
     have HLIT6 := Lib.hid (hlit6.set (g := w.heap.size + 1) (i := 2) (u := .slice A6 n6 c6) (fun b (hb : W5.heap.size ≤ b) => by omega))
     have HLIT7 := Lib.hid ((HLIT6.out.set (g := w.heap.size + 1) (i := 3) (u := .slice B6 m6 d6) (fun b (hb : W5.heap.size ≤ b) => by omega)).mono (T := fun b => w.heap.size + 1 < b) (Nat.le_refl _) (fun b (hb : W5.heap.size ≤ b) _ => ⟨by omega, rfl⟩))
     have HB6 := Lib.hid (HB5.out.trans (hb6.mono HB5.out.size))
     clear hlit6 hb6
     have HB7 := Lib.hid (below_set (below_set HB6.out (g := w.heap.size + 1) (by omega) 2 (.slice A6 n6 c6)) (g := w.heap.size + 1) (by omega) 3 (.slice B6 m6 d6))
     have HRES7 := Lib.hid (blk_far (p := ⟨w.heap.size + 1, 3, none⟩) (blk_far (p := ⟨w.heap.size + 1, 2, none⟩) HRES6.out (by simp) (.slice A6 n6 c6)) (by simp) (.slice B6 m6 d6))
     have t0 := blk_cell HTK6.out 0
     have tf0 := blk_frozen HTK6.out 0
     have t1 := blk_cell HTK6.out 1
     have tf1 := blk_frozen HTK6.out 1
     have t2 := blk_cell HTK6.out 2
     have tf2 := blk_frozen HTK6.out 2
     have t3 := blk_cell HTK6.out 3
     have tf3 := blk_frozen HTK6.out 3
     have t4 := blk_cell HTK6.out 4
     have tf4 := blk_frozen HTK6.out 4
     have r0 := blk_cell HRES6.out 0
     have rf0 := blk_frozen HRES6.out 0
     have r1 := blk_cell HRES6.out 1
     have rf1 := blk_frozen HRES6.out 1
     have r2 := blk_cell HRES6.out 2
     have rf2 := blk_frozen HRES6.out 2
     have r3 := blk_cell HRES6.out 3
     have rf3 := blk_frozen HRES6.out 3
     have r4 := blk_cell HRES6.out 4
     have rf4 := blk_frozen HRES6.out 4
     have hbs6 := blk_lt HRES6.out
     have htb6 := blk_lt HTK6.out
     go_wp2_with fail
     have hr := five_blk HRES7.out (.int .i64 1) (.string ⟨#[]⟩) (.slice A6 n6 c6) (.slice B6 m6 d6) (.int .i64 (i : Int))
     unfold fiveSet at hr
     have q0 := blk_cell hr 0
     have q1 := blk_cell hr 1
     have q2 := blk_cell hr 2
     have q3 := blk_cell hr 3
     have q4 := blk_cell hr 4
     refine bodyPost_ret (v := .tuple #[.agg #[.int .i64 1, .string ⟨#[]⟩, .slice A6 n6 c6, .slice B6 m6 d6, .int .i64 (i : Int)], .int .i64 (nx : Int), .int .i64 (-1)]) (by simp [results, Try.results49, go_sem, q0, q1, q2, q3, q4]) rfl ?_
     refine ⟨below_five HB7.out (Nat.le_refl _) (.int .i64 1) (.string ⟨#[]⟩) (.slice A6 n6 c6) (.slice B6 m6 d6) (.int .i64 (i : Int)), _, nx, -1, rfl, ⟨_, _, _, _, _, _, _, rfl, (((((HLIT7.out.set (fun b hb => by omega)).set (fun b hb => by omega)).set (fun b hb => by omega)).set (fun b hb => by omega)).set (fun b hb => by omega)).from (fun b hb => by omega)⟩, .inr ⟨rfl, by omega, by omega⟩, ?_⟩
     intro jj hjj
     rcases HK1.out with h | h
     ·subst h
      have h1 := HR1.out
      rw [hjj, strand1, HJ.out] at h1
      split at h1
      ·cases h1; exact ⟨rfl, rfl⟩
      ·cases h1
     ·rw [h] at hjj; cases hjj
    ·have hne : ((acc.length : Int) + 1 == 1) = false := beq_eq_false_iff_ne.2 (by omega)
     have HLIT5 := Lib.hid ((HLIT4.out.set (g := w.heap.size + 1) (i := 2) (u := .slice A4 n4 c4) (fun b (hb : w2.heap.size ≤ b) => by omega)).mono (T := fun b => w.heap.size + 1 < b) (Nat.le_refl _) (fun b (hb : w2.heap.size ≤ b) _ => ⟨by omega, rfl⟩))
     have HLIT6 := Lib.hid (HLIT5.out.set (g := w.heap.size + 1) (i := 3) (u := .slice B4 m4 d4) (fun b hb => by omega))
     have HB5 := Lib.hid (below_set (below_set HB4.out (g := w.heap.size + 1) (by omega) 2 (.slice A4 n4 c4)) (g := w.heap.size + 1) (by omega) 3 (.slice B4 m4 d4))
     have HRES5 := Lib.hid (blk_far (p := ⟨w.heap.size + 1, 3, none⟩) (blk_far (p := ⟨w.heap.size + 1, 2, none⟩) HRES4.out (by simp) (.slice A4 n4 c4)) (by simp) (.slice B4 m4 d4))
     clear hone
     go_wp2_with fail
     have hr := five_blk HRES5.out (.int .i64 1) (.string ⟨#[]⟩) (.slice A4 n4 c4) (.slice B4 m4 d4) (.int .i64 (i : Int))
     unfold fiveSet at hr
     have q0 := blk_cell hr 0
     have q1 := blk_cell hr 1
     have q2 := blk_cell hr 2
     have q3 := blk_cell hr 3
     have q4 := blk_cell hr 4
     refine bodyPost_ret (v := .tuple #[.agg #[.int .i64 1, .string ⟨#[]⟩, .slice A4 n4 c4, .slice B4 m4 d4, .int .i64 (i : Int)], .int .i64 (nx : Int), .int .i64 (-1)]) (by simp [results, Try.results49, go_sem, q0, q1, q2, q3, q4]) rfl ?_
     refine ⟨below_five HB5.out (Nat.le_refl _) (.int .i64 1) (.string ⟨#[]⟩) (.slice A4 n4 c4) (.slice B4 m4 d4) (.int .i64 (i : Int)), _, nx, -1, rfl, ⟨_, _, _, _, _, _, _, rfl, (((((HLIT6.out.set (fun b hb => by omega)).set (fun b hb => by omega)).set (fun b hb => by omega)).set (fun b hb => by omega)).set (fun b hb => by omega)).from (fun b hb => by omega)⟩, .inr ⟨rfl, by omega, by omega⟩, ?_⟩
     intro jj hjj
     rcases HK1.out with h | h
     ·subst h
      have h1 := HR1.out
      rw [hjj, strand1, HJ.out] at h1
      split at h1
      ·cases h1; exact ⟨rfl, rfl⟩
      ·cases h1
     ·rw [h] at hjj; cases hjj
   ·have b1 : ((nx : Int) == (j : Int)) = false := beq_eq_false_iff_ne.2 (by omega)
    have HR1N := Lib.hid (show R1 = none by
     rcases HK1.out with h | h
     ·subst h
      rw [← HR1.out, strand1, HJ.out, HNE.out, if_neg (fun h => hnj h.2)]
     ·exact h)
    have HBGN := Lib.hid (begins48_any s nx w2 hs (by omega))
    cases hbn : kbeg s nx with
    | true =>
     rw [hbn] at HBGN
     have HBN := Lib.hid (kbeg_dig hbn)
     clear hbn
     go_wp2_with fail
     refine HNX.out.mono ?_
     rintro e w3 ⟨rfl, hww⟩
     obtain rfl : w2 = w3 := hww.symm
     go_wp2_with fail
     refine HBGN.out.mono ?_
     rintro e w3 ⟨rfl, hww⟩
     obtain rfl : w2 = w3 := hww.symm
     go_wp2
     go_roundw
     case rel => exact ⟨nx, acc ++ [x], rfl, by omega, by rw [HLEN.out]; omega, HBN.out, .inr HR1N.out, HB2.out, HRES2.out, HTK2.out, by rw [HLEN.out]; exact HOWN2.out, by omega⟩
     case measure => simp [intOf]; omega
    | false =>
     rw [hbn] at HBGN
     clear hbn
     go_wp2_with fail
     refine HNX.out.mono ?_
     rintro e w3 ⟨rfl, hww⟩
     obtain rfl : w2 = w3 := hww.symm
     go_wp2_with fail
     refine HBGN.out.mono ?_
     rintro e w3 ⟨rfl, hww⟩
     obtain rfl : w2 = w3 := hww.symm
     go_wp2_with fail
     refine (rnums_any _ _ cap (acc ++ [x]) w2 HRW2.out HLEN.out (by omega)).mono ?_
     rintro e w4 ⟨v4, rfl, hlit4, hb4⟩
     obtain ⟨A4, n4, c4, B4, m4, d4, rfl⟩ := hlit4.form
     have HLIT4 := Lib.hid hlit4
     have HB4 := Lib.hid (HB2.out.trans (hb4.mono HB2.out.size))
     have HRES4 := Lib.hid (blk_below HRES2.out hb4 hbs2)
     have HTK4 := Lib.hid (blk_below HTK2.out hb4 htb2)
     have HRW4 := Lib.hid (HRW2.out.below hb4)
     have hs24 := hb4.size
     clear hlit4 hb4
     have hbs4 := blk_lt HRES4.out
     have htb4 := blk_lt HTK4.out
     have t0 := blk_cell HTK4.out 0
     have tf0 := blk_frozen HTK4.out 0
     have t1 := blk_cell HTK4.out 1
     have tf1 := blk_frozen HTK4.out 1
     have t2 := blk_cell HTK4.out 2
     have tf2 := blk_frozen HTK4.out 2
     have t3 := blk_cell HTK4.out 3
     have tf3 := blk_frozen HTK4.out 3
     have t4 := blk_cell HTK4.out 4
     have tf4 := blk_frozen HTK4.out 4
     have r0 := blk_cell HRES4.out 0
     have rf0 := blk_frozen HRES4.out 0
     have r1 := blk_cell HRES4.out 1
     have rf1 := blk_frozen HRES4.out 1
     have r2 := blk_cell HRES4.out 2
     have rf2 := blk_frozen HRES4.out 2
     have r3 := blk_cell HRES4.out 3
     have rf3 := blk_frozen HRES4.out 3
     have r4 := blk_cell HRES4.out 4
     have rf4 := blk_frozen HRES4.out 4
     by_cases hone : acc.length = 0
     ·obtain rfl : acc = [] := List.length_eq_zero_iff.1 hone
      have cx : w4.cell? ⟨gg, 0, none⟩ = some (.int .i64 x) := by
       obtain ⟨b, off, e, hc⟩ := HRW4.out.2 (by simp)
       cases e
       simpa using hc 0 (by simp)
      have hne1 : ¬ gg = w.heap.size + 1 := by omega
      have hne1' : ¬ w.heap.size + 1 = gg := by omega
      clear hone
      go_wp2_with fail
      have HB5 := Lib.hid (below_set (below_set HB4.out (g := w.heap.size + 1) (by omega) 2 (.slice A4 n4 c4)) (g := w.heap.size + 1) (by omega) 3 (.slice B4 m4 d4))
      have HRES5 := Lib.hid (blk_far (p := ⟨w.heap.size + 1, 3, none⟩) (blk_far (p := ⟨w.heap.size + 1, 2, none⟩) HRES4.out (by simp) (.slice A4 n4 c4)) (by simp) (.slice B4 m4 d4))
      have HTK5 := Lib.hid (show ((w4.setCell ⟨w.heap.size + 1, 2, none⟩ (.slice A4 n4 c4)).setCell ⟨w.heap.size + 1, 3, none⟩ (.slice B4 m4 d4)).heap[w.heap.size + 1]? = some (.cells #[.int .i64 1, .string ⟨#[]⟩, .slice A4 n4 c4, .slice B4 m4 d4, .int .i64 (i : Int)] 43 (0, 0)) by simpa using blk_set (blk_set HTK4.out 2 (.slice A4 n4 c4)) 3 (.slice B4 m4 d4))
      obtain ⟨W5, hW5⟩ : ∃ W, (w4.setCell ⟨w.heap.size + 1, 2, none⟩ (.slice A4 n4 c4)).setCell ⟨w.heap.size + 1, 3, none⟩ (.slice B4 m4 d4) = W := ⟨_, rfl⟩
      rw [hW5] at HB5 HRES5 HTK5 ⊢
      clear hW5 t0 tf0 r0 rf0 t1 tf1 r1 rf1 t2 tf2 r2 rf2 t3 tf3 r3 rf3 t4 tf4 r4 rf4 HRW4 HRW2 HLIT4 cx
      refine (atom_any x W5).mono ?_
      rintro e w6 ⟨v6, rfl, hlit6, hb6⟩
      obtain ⟨A6, n6, c6, B6, m6, d6, rfl⟩ := hlit6.form
      have hbs5 := blk_lt HRES5.out
      have htb5 := blk_lt HTK5.out
      have HRES6 := Lib.hid (blk_below HRES5.out hb6 hbs5)
      have HTK6 := Lib.hid (blk_below HTK5.out hb6 htb5)
      have HLIT6 := Lib.hid (hlit6.set (g := w.heap.size + 1) (i := 2) (u := .slice A6 n6 c6) (fun b (hb : W5.heap.size ≤ b) => by omega))
      have HLIT7 := Lib.hid ((HLIT6.out.set (g := w.heap.size + 1) (i := 3) (u := .slice B6 m6 d6) (fun b (hb : W5.heap.size ≤ b) => by omega)).mono (T := fun b => w.heap.size + 1 < b) (Nat.le_refl _) (fun b (hb : W5.heap.size ≤ b) _ => ⟨by omega, rfl⟩))
      have HB6 := Lib.hid (HB5.out.trans (hb6.mono HB5.out.size))
      clear hlit6 hb6
      have HB7 := Lib.hid (below_set (below_set HB6.out (g := w.heap.size + 1) (by omega) 2 (.slice A6 n6 c6)) (g := w.heap.size + 1) (by omega) 3 (.slice B6 m6 d6))
      have HRES7 := Lib.hid (blk_far (p := ⟨w.heap.size + 1, 3, none⟩) (blk_far (p := ⟨w.heap.size + 1, 2, none⟩) HRES6.out (by simp) (.slice A6 n6 c6)) (by simp) (.slice B6 m6 d6))
      have t0 := blk_cell HTK6.out 0
      have tf0 := blk_frozen HTK6.out 0
      have t1 := blk_cell HTK6.out 1
      have tf1 := blk_frozen HTK6.out 1
      have t2 := blk_cell HTK6.out 2
      have tf2 := blk_frozen HTK6.out 2
      have t3 := blk_cell HTK6.out 3
      have tf3 := blk_frozen HTK6.out 3
      have t4 := blk_cell HTK6.out 4
      have tf4 := blk_frozen HTK6.out 4
      have r0 := blk_cell HRES6.out 0
      have rf0 := blk_frozen HRES6.out 0
      have r1 := blk_cell HRES6.out 1
      have rf1 := blk_frozen HRES6.out 1
      have r2 := blk_cell HRES6.out 2
      have rf2 := blk_frozen HRES6.out 2
      have r3 := blk_cell HRES6.out 3
      have rf3 := blk_frozen HRES6.out 3
      have r4 := blk_cell HRES6.out 4
      have rf4 := blk_frozen HRES6.out 4
      have hbs6 := blk_lt HRES6.out
      have htb6 := blk_lt HTK6.out
      go_wp2_with fail
      have hr := five_blk HRES7.out (.int .i64 1) (.string ⟨#[]⟩) (.slice A6 n6 c6) (.slice B6 m6 d6) (.int .i64 (i : Int))
      unfold fiveSet at hr
      have q0 := blk_cell hr 0
      have q1 := blk_cell hr 1
      have q2 := blk_cell hr 2
      have q3 := blk_cell hr 3
      have q4 := blk_cell hr 4
      refine bodyPost_ret (v := .tuple #[.agg #[.int .i64 1, .string ⟨#[]⟩, .slice A6 n6 c6, .slice B6 m6 d6, .int .i64 (i : Int)], .int .i64 (j : Int), .int .i64 (-1)]) (by simp [results, Try.results49, go_sem, q0, q1, q2, q3, q4]) rfl ?_
      refine ⟨below_five HB7.out (Nat.le_refl _) (.int .i64 1) (.string ⟨#[]⟩) (.slice A6 n6 c6) (.slice B6 m6 d6) (.int .i64 (i : Int)), _, j, -1, rfl, ⟨_, _, _, _, _, _, _, rfl, (((((HLIT7.out.set (fun b hb => by omega)).set (fun b hb => by omega)).set (fun b hb => by omega)).set (fun b hb => by omega)).set (fun b hb => by omega)).from (fun b hb => by omega)⟩, .inr ⟨rfl, by omega, by omega⟩, ?_⟩
      intro jj hjj
      rw [HR1N.out] at hjj
      cases hjj
     ·have hne : ((acc.length : Int) + 1 == 1) = false := beq_eq_false_iff_ne.2 (by omega)
      have HLIT5 := Lib.hid ((HLIT4.out.set (g := w.heap.size + 1) (i := 2) (u := .slice A4 n4 c4) (fun b (hb : w2.heap.size ≤ b) => by omega)).mono (T := fun b => w.heap.size + 1 < b) (Nat.le_refl _) (fun b (hb : w2.heap.size ≤ b) _ => ⟨by omega, rfl⟩))
      have HLIT6 := Lib.hid (HLIT5.out.set (g := w.heap.size + 1) (i := 3) (u := .slice B4 m4 d4) (fun b hb => by omega))
      have HB5 := Lib.hid (below_set (below_set HB4.out (g := w.heap.size + 1) (by omega) 2 (.slice A4 n4 c4)) (g := w.heap.size + 1) (by omega) 3 (.slice B4 m4 d4))
      have HRES5 := Lib.hid (blk_far (p := ⟨w.heap.size + 1, 3, none⟩) (blk_far (p := ⟨w.heap.size + 1, 2, none⟩) HRES4.out (by simp) (.slice A4 n4 c4)) (by simp) (.slice B4 m4 d4))
      clear hone
      go_wp2_with fail
      have hr := five_blk HRES5.out (.int .i64 1) (.string ⟨#[]⟩) (.slice A4 n4 c4) (.slice B4 m4 d4) (.int .i64 (i : Int))
      unfold fiveSet at hr
      have q0 := blk_cell hr 0
      have q1 := blk_cell hr 1
      have q2 := blk_cell hr 2
      have q3 := blk_cell hr 3
      have q4 := blk_cell hr 4
      refine bodyPost_ret (v := .tuple #[.agg #[.int .i64 1, .string ⟨#[]⟩, .slice A4 n4 c4, .slice B4 m4 d4, .int .i64 (i : Int)], .int .i64 (j : Int), .int .i64 (-1)]) (by simp [results, Try.results49, go_sem, q0, q1, q2, q3, q4]) rfl ?_
      refine ⟨below_five HB5.out (Nat.le_refl _) (.int .i64 1) (.string ⟨#[]⟩) (.slice A4 n4 c4) (.slice B4 m4 d4) (.int .i64 (i : Int)), _, j, -1, rfl, ⟨_, _, _, _, _, _, _, rfl, (((((HLIT6.out.set (fun b hb => by omega)).set (fun b hb => by omega)).set (fun b hb => by omega)).set (fun b hb => by omega)).set (fun b hb => by omega)).from (fun b hb => by omega)⟩, .inr ⟨rfl, by omega, by omega⟩, ?_⟩
      intro jj hjj
      rw [HR1N.out] at hjj
      cases hjj
end Go.Proofs.Ytollglblkbjgjaa
namespace Go.Proofs.Ytollglblkbjgjaa
open Go.RowKit

set_option maxRecDepth 100000 in
set_option maxHeartbeats 8000000 in
theorem word52_any (s : ByteArray) (i : Nat) (w : World) (hs : s.size ≤ 1000000) (hi : i < s.size) (hlw : low26 (bt s i) = true) : Calls Try.prog 52 #[.string s, .int .i64 (i : Int)] w (WordJ s i w) := by
 have HLW := Lib.hid hlw
 have HD := Lib.hid (fun (c : Int) (w : World) => digit_any c w)
 have HL := Lib.hid (fun (c : Int) (w : World) => small51_any c w)
 clear hlw
 go_enter Try.func52, Try.ntmps52
 go_wp2
 go_loopw [7, 8] (fun q bo wr => ∃ (k : Nat) (b : Bool), q = .int .i64 k ∧ bo = .bool b ∧ i ≤ k ∧ k ≤ s.size ∧ Below w.heap.size w wr ∧ wr.heap[w.heap.size]? = some (.cells #[.int .i64 0, .string ⟨#[]⟩, .slice none 0 0, .slice none 0 0, .int .i64 0] 43 (0, 0))) (fun q _ _ => s.size - (intOf q).toNat)
 case atStart => exact ⟨i, true, rfl, rfl, Nat.le_refl _, by omega, (Below.refl _ _).alloc (Nat.le_refl _) _, blk_new w _⟩
 case round =>
  obtain ⟨k, b, rfl, rfl, hik, hk, hb, hres⟩ := hrel
  have HB := Lib.hid hb
  have HRES := Lib.hid hres
  have hres0 := blk_lt hres
  clear hb hres
  by_cases hlt : k < s.size
  ·have hj0 : (0 : Int) ≤ (k : Int) := by omega
   have hj1 : (k : Int) < (s.size : Int) := by omega
   have d1 : decide ((k : Int) < (s.size : Int)) = true := decide_eq_true (by omega)
   have hbg := bt_get s k hlt
   cases hl : low26 (bt s k) with
   | true =>
    have HLT := Lib.hid hl
    clear hl
    go_wp2_with fail
    refine (HL.out _ _).mono ?_
    rintro e w1 ⟨rfl, hww⟩
    obtain rfl : wr = w1 := hww.symm
    rw [HLT.out]
    go_wp2
    all_goals
     go_roundw
     case rel => exact ⟨k + 1, _, by go_num, rfl, by omega, by omega, HB.out, HRES.out⟩
     case measure => simp [intOf]; omega
   | false =>
    have HLT := Lib.hid hl
    clear hl
    have hki : i < k := by
     rcases Nat.lt_or_ge i k with h | h
     ·exact h
     ·exfalso
      obtain rfl : i = k := by omega
      have h1 := HLT.out
      rw [HLW.out] at h1
      cases h1
    cases hd : dig (bt s k) with
    | true =>
     have HDG := Lib.hid hd
     clear hd
     go_wp2_with fail
     refine (HL.out _ _).mono ?_
     rintro e w1 ⟨rfl, hww⟩
     obtain rfl : wr = w1 := hww.symm
     rw [HLT.out]
     go_wp2_with fail
     refine (HD.out _ _).mono ?_
     rintro e w1 ⟨rfl, hww⟩
     obtain rfl : wr = w1 := hww.symm
     rw [HDG.out]
     go_wp2
     all_goals
      go_roundw
      case rel => exact ⟨k + 1, _, by go_num, rfl, by omega, by omega, HB.out, HRES.out⟩
      case measure => simp [intOf]; omega
    | false =>
     have HDG := Lib.hid hd
     clear hd
     have h0 : (0 : Int) ≤ (i : Int) := by omega
     have h1 : (i : Int) ≤ (k : Int) := by omega
     have h2 : (k : Int) ≤ (s.size : Int) := by omega
     have hx : (s.extract i k).size ≤ s.size := by
      obtain ⟨d, rfl⟩ := Nat.exists_eq_add_of_le (show i ≤ k by omega)
      rw [extract_size s i d (by omega)]; omega
     have HX := Lib.hid hx
     clear hx
     go_wp2_with fail
     refine (HL.out _ _).mono ?_
     rintro e w1 ⟨rfl, hww⟩
     obtain rfl : wr = w1 := hww.symm
     rw [HLT.out]
     go_wp2_with fail
     refine (HD.out _ _).mono ?_
     rintro e w1 ⟨rfl, hww⟩
     obtain rfl : wr = w1 := hww.symm
     rw [HDG.out]
     go_wp2_with fail
     obtain ⟨W, hW⟩ : ∃ W, wr.alloc (.cells #[.int .i64 3, .string (s.extract i k), .slice none 0 0, .slice none 0 0, .int .i64 (i : Int)] 43) = W := ⟨_, rfl⟩
     have hbW : Below wr.heap.size wr W := by rw [← hW]; exact (Below.refl _ wr).alloc (Nat.le_refl _) _
     have HT := Lib.hid (show W.heap[wr.heap.size]? = some (.cells #[.int .i64 3, .string (s.extract i k), .slice none 0 0, .slice none 0 0, .int .i64 (i : Int)] 43 (0, 0)) by rw [← hW]; exact blk_new wr _)
     rw [hW]
     have HRESW := Lib.hid (blk_below HRES.out hbW hres0)
     have HBW := Lib.hid (below_then HB.out HB.out.size hbW)
     have hsz := blk_lt HT.out
     clear hbW hW HRES HB
     obtain ⟨X, hX⟩ : ∃ X, s.extract i k = X := ⟨_, rfl⟩
     rw [hX] at HX HT ⊢
     clear hX
     have r0 := blk_cell HRESW.out 0
     have rf0 := blk_frozen HRESW.out 0
     have r1 := blk_cell HRESW.out 1
     have rf1 := blk_frozen HRESW.out 1
     have r2 := blk_cell HRESW.out 2
     have rf2 := blk_frozen HRESW.out 2
     have r3 := blk_cell HRESW.out 3
     have rf3 := blk_frozen HRESW.out 3
     have r4 := blk_cell HRESW.out 4
     have rf4 := blk_frozen HRESW.out 4
     have t0 := blk_cell HT.out 0
     have tf0 := blk_frozen HT.out 0
     have t1 := blk_cell HT.out 1
     have tf1 := blk_frozen HT.out 1
     have t2 := blk_cell HT.out 2
     have tf2 := blk_frozen HT.out 2
     have t3 := blk_cell HT.out 3
     have tf3 := blk_frozen HT.out 3
     have t4 := blk_cell HT.out 4
     have tf4 := blk_frozen HT.out 4
     cases bq1 : (X.toList == [120]) <;> cases bq2 : (X.toList == [121]) <;> cases b
     all_goals
      go_region
      all_goals
       go_wp2
       have hr := blk_drew (five_blk HRESW.out (.int .i64 3) (.string X) (.slice none 0 0) (.slice none 0 0) (.int .i64 (i : Int)))
       unfold fiveSet at hr
       have q0 := blk_cell hr 0
       have q1 := blk_cell hr 1
       have q2 := blk_cell hr 2
       have q3 := blk_cell hr 3
       have q4 := blk_cell hr 4
       refine bodyPost_ret (by simp [results, Try.results52, go_sem, q0, q1, q2, q3, q4]; rfl) rfl ?_
       exact ⟨(below_five HBW.out (Nat.le_refl _) (.int .i64 3) (.string X) (.slice none 0 0) (.slice none 0 0) (.int .i64 (i : Int))).drew, _, _, k, _, rfl, HX.out, (by omega), (by omega)⟩
  ·have d1 : decide ((k : Int) < (s.size : Int)) = false := decide_eq_false (by omega)
   have hki : i < k := by omega
   have h0 : (0 : Int) ≤ (i : Int) := by omega
   have h1 : (i : Int) ≤ (k : Int) := by omega
   have h2 : (k : Int) ≤ (s.size : Int) := by omega
   have hx : (s.extract i k).size ≤ s.size := by
    obtain ⟨d, rfl⟩ := Nat.exists_eq_add_of_le (show i ≤ k by omega)
    rw [extract_size s i d (by omega)]; omega
   have HX := Lib.hid hx
   clear hx
   go_wp2_with fail
   obtain ⟨W, hW⟩ : ∃ W, wr.alloc (.cells #[.int .i64 3, .string (s.extract i k), .slice none 0 0, .slice none 0 0, .int .i64 (i : Int)] 43) = W := ⟨_, rfl⟩
   have hbW : Below wr.heap.size wr W := by rw [← hW]; exact (Below.refl _ wr).alloc (Nat.le_refl _) _
   have HT := Lib.hid (show W.heap[wr.heap.size]? = some (.cells #[.int .i64 3, .string (s.extract i k), .slice none 0 0, .slice none 0 0, .int .i64 (i : Int)] 43 (0, 0)) by rw [← hW]; exact blk_new wr _)
   rw [hW]
   have HRESW := Lib.hid (blk_below HRES.out hbW hres0)
   have HBW := Lib.hid (below_then HB.out HB.out.size hbW)
   have hsz := blk_lt HT.out
   clear hbW hW HRES HB
   obtain ⟨X, hX⟩ : ∃ X, s.extract i k = X := ⟨_, rfl⟩
   rw [hX] at HX HT ⊢
   clear hX
   have r0 := blk_cell HRESW.out 0
   have rf0 := blk_frozen HRESW.out 0
   have r1 := blk_cell HRESW.out 1
   have rf1 := blk_frozen HRESW.out 1
   have r2 := blk_cell HRESW.out 2
   have rf2 := blk_frozen HRESW.out 2
   have r3 := blk_cell HRESW.out 3
   have rf3 := blk_frozen HRESW.out 3
   have r4 := blk_cell HRESW.out 4
   have rf4 := blk_frozen HRESW.out 4
   have t0 := blk_cell HT.out 0
   have tf0 := blk_frozen HT.out 0
   have t1 := blk_cell HT.out 1
   have tf1 := blk_frozen HT.out 1
   have t2 := blk_cell HT.out 2
   have tf2 := blk_frozen HT.out 2
   have t3 := blk_cell HT.out 3
   have tf3 := blk_frozen HT.out 3
   have t4 := blk_cell HT.out 4
   have tf4 := blk_frozen HT.out 4
   cases bq1 : (X.toList == [120]) <;> cases bq2 : (X.toList == [121]) <;> cases b
   all_goals
    go_region
    all_goals
     go_wp2
     have hr := blk_drew (five_blk HRESW.out (.int .i64 3) (.string X) (.slice none 0 0) (.slice none 0 0) (.int .i64 (i : Int)))
     unfold fiveSet at hr
     have q0 := blk_cell hr 0
     have q1 := blk_cell hr 1
     have q2 := blk_cell hr 2
     have q3 := blk_cell hr 3
     have q4 := blk_cell hr 4
     refine bodyPost_ret (by simp [results, Try.results52, go_sem, q0, q1, q2, q3, q4]; rfl) rfl ?_
     exact ⟨(below_five HBW.out (Nat.le_refl _) (.int .i64 3) (.string X) (.slice none 0 0) (.slice none 0 0) (.int .i64 (i : Int))).drew, _, _, k, _, rfl, HX.out, (by omega), (by omega)⟩
end Go.Proofs.Ytollglblkbjgjaa
