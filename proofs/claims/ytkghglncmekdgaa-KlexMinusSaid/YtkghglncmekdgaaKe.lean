/- Contracts of the lexer's begins, sign and name. Conditions: the lexer's block reads in memory. -/
import Derived.Test.YtkghglncmekdgaaKd
import Derived.Test.YtkghglncmekdgaaShelf
namespace Go.Proofs.Ytkghglncmekdgaa
open Go.RowKit

theorem gt_byte (s : ByteArray) (i : Nat) : 0 ≤ Kx.gt (nb s) i ∧ Kx.gt (nb s) i ≤ 255 := by
  rcases Nat.lt_or_ge i s.size with h | h
  · rw [← byte_gt s i h]; have := s[i].toNat_lt; omega
  · rw [gt_past s i h]; omega
theorem prev_byte (s : ByteArray) (i : Nat) : 0 ≤ Kx.prev (nb s) i ∧ Kx.prev (nb s) i ≤ 255 := by
  cases i with
  | zero => exact ⟨Int.le_refl _, by show (0 : Int) ≤ 255; omega⟩
  | succ k => exact gt_byte s k

theorem idx_behind (c : Int) (h0 : 0 ≤ c) (h1 : c ≤ 255) : decide (0 ≤ Lib.indexByte [41, 93, 125, 34] c.toNat.toUInt8) = (c == 41 || c == 93 || c == 125 || c == 34) := by
  have : ∀ n : Fin 256, decide (0 ≤ Lib.indexByte [41, 93, 125, 34] (n : Nat).toUInt8) = (((n : Nat) : Int) == 41 || ((n : Nat) : Int) == 93 || ((n : Nat) : Int) == 125 || ((n : Nat) : Int) == 34) := by decide +kernel
  have h := this ⟨c.toNat, by omega⟩
  have e : ((c.toNat : Nat) : Int) = c := by omega
  simpa only [e] using h
theorem idx_signs (c : Int) (h0 : 0 ≤ c) (h1 : c ≤ 255) : decide (0 ≤ Lib.indexByte [43, 45, 42, 37, 38, 124, 60, 62, 61, 126, 33, 35, 95, 44, 94, 63, 64, 47, 92] c.toNat.toUInt8) = decide (c ∈ Kx.signs) := by
  have : ∀ n : Fin 256, decide (0 ≤ Lib.indexByte [43, 45, 42, 37, 38, 124, 60, 62, 61, 126, 33, 35, 95, 44, 94, 63, 64, 47, 92] (n : Nat).toUInt8) = decide (((n : Nat) : Int) ∈ Kx.signs) := by decide +kernel
  have h := this ⟨c.toNat, by omega⟩
  have e : ((c.toNat : Nat) : Int) = c := by omega
  simpa only [e] using h

def BoolTo (b : Bool) (w : World) (e : Ending) (w' : World) : Prop := e = .returned (.bool b) ∧ w = w'
theorem ret_bool {a b : Bool} (h : a = b) : Ending.returned (.bool a) = .returned (.bool b) := by rw [h]

set_option maxHeartbeats 1000000 in
theorem begins_any (g : Nat) (s : ByteArray) (i : Nat) (w : World) (hg : w.heap[g]? = some (lcell s i)) (hi : i ≤ 100000) :
    Calls Try.prog 22 #[.pointer (some ⟨g, 0, none⟩)] w (BoolTo (Kx.begins (nb s) i) w) := by
  have H := Lib.hid hg
  clear hg
  obtain ⟨r, hr⟩ : ∃ r, Kx.begins (nb s) i = r := ⟨_, rfl⟩
  rw [hr]
  unfold Kx.begins Kx.behind at hr
  have hb0 := gt_byte s i
  have hb1 := gt_byte s (i + 1)
  have hbp := prev_byte s i
  have P0 := Lib.hid (fun (w : World) hg => peek_here g s i w hg (by omega))
  have P1 := Lib.hid (fun (w : World) hg => peek_next g s i w hg (by omega))
  have PP := Lib.hid (fun (w : World) hg => peek_prev g s i w hg (by omega))
  generalize Kx.gt (nb s) i = c0 at hr hb0 P0
  generalize Kx.gt (nb s) (i + 1) = c1 at hr hb1 P1
  generalize Kx.prev (nb s) i = cp at hr hbp PP
  have hix := idx_behind cp hbp.1 hbp.2
  obtain ⟨d0, hd0⟩ : ∃ d, Kx.dig c0 = d := ⟨_, rfl⟩
  obtain ⟨d1, hd1⟩ : ∃ d, Kx.dig c1 = d := ⟨_, rfl⟩
  obtain ⟨dp, hdp⟩ : ∃ d, Kx.dig cp = d := ⟨_, rfl⟩
  obtain ⟨lp, hlp⟩ : ∃ d, Kx.low cp = d := ⟨_, rfl⟩
  obtain ⟨xp, hxp⟩ : ∃ d, (cp == 41 || cp == 93 || cp == 125 || cp == 34) = d := ⟨_, rfl⟩
  rw [hxp] at hr hix
  rw [hd0, hd1, hdp, hlp] at hr
  have HR := Lib.hid hr
  have D0 := Lib.hid hd0
  have D1 := Lib.hid hd1
  have DP := Lib.hid hdp
  have LP := Lib.hid hlp
  have XP := Lib.hid hxp
  have IX := Lib.hid hix
  clear hr hd0 hd1 hdp hlp hxp hix
  go_enter Try.func22, Try.ntmps22
  go_wp2_with fail
  refine (P0.out _ H.out).mono ?_
  rintro e w1 ⟨rfl, rfl⟩
  go_wp2_with fail
  refine (dig_any c0 _).mono ?_
  rintro e w1 ⟨rfl, rfl⟩
  rw [D0.out]
  cases d0
  · go_wp2_with fail
    refine (PP.out _ H.out).mono ?_
    rintro e w1 ⟨rfl, rfl⟩
    go_wp2_with fail
    refine (low_any cp _).mono ?_
    rintro e w1 ⟨rfl, rfl⟩
    rw [LP.out]
    have hbeh : ∃ bb : Bool, (lp || dp || xp) = bb ∧ (lp = true ∨ (lp = false ∧ dp = true) ∨ (lp = false ∧ dp = false ∧ cp = 0 ∧ bb = false) ∨ (lp = false ∧ dp = false ∧ ¬ cp = 0 ∧ bb = xp)) := by
      refine ⟨_, rfl, ?_⟩
      cases lp
      · cases dp
        · by_cases h0 : cp = 0
          · right; right; left
            refine ⟨rfl, rfl, h0, ?_⟩
            rw [← XP.out, h0]; rfl
          · right; right; right
            exact ⟨rfl, rfl, h0, by simp⟩
        · exact .inr (.inl ⟨rfl, rfl⟩)
      · exact .inl rfl
    obtain ⟨bb, hbb, hcase⟩ := hbeh
    rw [hbb] at HR
    have HBB := Lib.hid hbb
    clear hbb
    have fin : ∀ (K : Prop), (Kx.begins (nb s) i = Kx.begins (nb s) i → K) → K := fun K h => h rfl
    clear fin
    rcases hcase with rfl | ⟨rfl, rfl⟩ | ⟨rfl, rfl, rfl, rfl⟩ | ⟨rfl, rfl, hc, rfl⟩
    · obtain rfl : bb = true := by rw [← HBB.out]; simp
      go_wp2_with fail
      refine (P0.out _ H.out).mono ?_
      rintro e w1 ⟨rfl, rfl⟩
      by_cases h45 : c0 = 45
      · subst h45
        go_wp2_with fail
        refine (P1.out _ H.out).mono ?_
        rintro e w1 ⟨rfl, rfl⟩
        go_wp2_with fail
        refine (dig_any c1 _).mono ?_
        rintro e w1 ⟨rfl, rfl⟩
        rw [D1.out]
        cases d1
        all_goals
          go_wp2
          go_ret
          refine ⟨?_, rfl⟩
          rw [← HR.out]
          rfl
      · have h45' : (c0 == 45) = false := by simpa using h45
        go_wp2
        go_ret
        refine ⟨?_, rfl⟩
        rw [← HR.out, h45']
        rfl
    · obtain rfl : bb = true := by rw [← HBB.out]; simp
      go_wp2_with fail
      refine (dig_any cp _).mono ?_
      rintro e w1 ⟨rfl, rfl⟩
      rw [DP.out]
      go_wp2_with fail
      refine (P0.out _ H.out).mono ?_
      rintro e w1 ⟨rfl, rfl⟩
      by_cases h45 : c0 = 45
      · subst h45
        go_wp2_with fail
        refine (P1.out _ H.out).mono ?_
        rintro e w1 ⟨rfl, rfl⟩
        go_wp2_with fail
        refine (dig_any c1 _).mono ?_
        rintro e w1 ⟨rfl, rfl⟩
        rw [D1.out]
        cases d1
        all_goals
          go_wp2
          go_ret
          refine ⟨?_, rfl⟩
          rw [← HR.out]
          rfl
      · have h45' : (c0 == 45) = false := by simpa using h45
        go_wp2
        go_ret
        refine ⟨?_, rfl⟩
        rw [← HR.out, h45']
        rfl
    · clear HBB
      go_wp2_with fail
      refine (dig_any 0 _).mono ?_
      rintro e w1 ⟨rfl, rfl⟩
      rw [DP.out]
      go_wp2_with fail
      refine (P0.out _ H.out).mono ?_
      rintro e w1 ⟨rfl, rfl⟩
      by_cases h45 : c0 = 45
      · subst h45
        go_wp2_with fail
        refine (P1.out _ H.out).mono ?_
        rintro e w1 ⟨rfl, rfl⟩
        go_wp2_with fail
        refine (dig_any c1 _).mono ?_
        rintro e w1 ⟨rfl, rfl⟩
        rw [D1.out]
        cases d1
        all_goals
          go_wp2
          go_ret
          refine ⟨?_, rfl⟩
          rw [← HR.out]
          rfl
      · have h45' : (c0 == 45) = false := by simpa using h45
        go_wp2
        go_ret
        refine ⟨?_, rfl⟩
        rw [← HR.out, h45']
        rfl
    · clear HBB
      go_wp2_with fail
      refine (dig_any cp _).mono ?_
      rintro e w1 ⟨rfl, rfl⟩
      rw [DP.out]
      go_wp2_with fail
      obtain ⟨ix, hix⟩ : ∃ ix, Lib.indexByte [41, 93, 125, 34] cp.toNat.toUInt8 = ix := ⟨_, rfl⟩
      have CI : ∀ w, Calls Try.prog 35 #[.string ⟨#[41, 93, 125, 34]⟩, .int .u8 cp] w (fun e w' => e = .returned (.int .i64 ix) ∧ w' = w) := by
        intro w; rw [← hix]; exact Try.strings_IndexByte _ _ _
      have hx2 := IX.out
      rw [hix] at hx2
      have HX2 := Lib.hid hx2
      clear hix IX hx2
      refine (CI _).mono ?_
      rintro e w1 ⟨rfl, rfl⟩
      clear CI
      have hx2 := HX2.out
      go_wp2_with fail
      refine (P0.out _ H.out).mono ?_
      rintro e w1 ⟨rfl, rfl⟩
      by_cases h45 : c0 = 45
      · subst h45
        go_wp2_with fail
        refine (P1.out _ H.out).mono ?_
        rintro e w1 ⟨rfl, rfl⟩
        go_wp2_with fail
        refine (dig_any c1 _).mono ?_
        rintro e w1 ⟨rfl, rfl⟩
        rw [D1.out]
        cases d1
        all_goals
          go_wp2
          go_ret
          refine ⟨?_, rfl⟩
          rw [← HR.out]
          first | rfl | (refine ret_bool ?_; simp [hc])
      · have h45' : (c0 == 45) = false := by simpa using h45
        go_wp2
        go_ret
        refine ⟨?_, rfl⟩
        rw [← HR.out, h45']
        rfl
  · go_wp2
    go_ret
    refine ⟨?_, rfl⟩
    rw [← HR.out]
    rfl

theorem sign_any (c : Int) (h0 : 0 ≤ c) (h1 : c ≤ 255) (w : World) : Calls Try.prog 29 #[.int .u8 c] w (fun e w' => e = .returned (.int .i64 (Kx.sign c)) ∧ w = w') := by
  by_cases hk : c = 58 ∨ c = 40 ∨ c = 123 ∨ c = 91 ∨ c = 41 ∨ c = 125 ∨ c = 93
  · rcases hk with rfl | rfl | rfl | rfl | rfl | rfl | rfl
    all_goals
      go_enter Try.func29, Try.ntmps29
      go_wp2
      go_ret
      exact ⟨rfl, rfl⟩
  · have hix := idx_signs c h0 h1
    have a1 : ¬ c = 58 := fun h => hk (by simp [h])
    have a2 : ¬ c = 40 := fun h => hk (by simp [h])
    have a3 : ¬ c = 123 := fun h => hk (by simp [h])
    have a4 : ¬ c = 91 := fun h => hk (by simp [h])
    have a5 : ¬ c = 41 := fun h => hk (by simp [h])
    have a6 : ¬ c = 125 := fun h => hk (by simp [h])
    have a7 : ¬ c = 93 := fun h => hk (by simp [h])
    have hs : Kx.sign c = if decide (c ∈ Kx.signs) = true then 4 else 0 := by
      unfold Kx.sign
      rw [if_neg a1, if_neg (by simp [a2, a3, a4]), if_neg (by simp [a5, a6, a7])]
      simp
    rw [← hix] at hs
    by_cases hz : c = 0
    · subst hz
      have hs0 : Kx.sign 0 = 0 := by decide
      rw [hs0]
      clear hs hix a1 a2 a3 a4 a5 a6 a7 hk
      go_enter Try.func29, Try.ntmps29
      go_wp2
      go_ret
      exact ⟨rfl, rfl⟩
    · obtain ⟨ix, hxx⟩ : ∃ ix, Lib.indexByte [43, 45, 42, 37, 38, 124, 60, 62, 61, 126, 33, 35, 95, 44, 94, 63, 64, 47, 92] c.toNat.toUInt8 = ix := ⟨_, rfl⟩
      have CI : ∀ w, Calls Try.prog 35 #[.string ⟨#[43, 45, 42, 37, 38, 124, 60, 62, 61, 126, 33, 35, 95, 44, 94, 63, 64, 47, 92]⟩, .int .u8 c] w (fun e w' => e = .returned (.int .i64 ix) ∧ w' = w) := by
        intro w; rw [← hxx]; exact Try.strings_IndexByte _ _ _
      rw [hxx] at hs
      have HS := Lib.hid hs
      have b1 : (c == 58) = false := by simpa using a1
      have b2 : (c == 40) = false := by simpa using a2
      have b3 : (c == 123) = false := by simpa using a3
      have b4 : (c == 91) = false := by simpa using a4
      have b5 : (c == 41) = false := by simpa using a5
      have b6 : (c == 125) = false := by simpa using a6
      have b7 : (c == 93) = false := by simpa using a7
      have bz : (c == 0) = false := by simpa using hz
      clear hix hxx hs hk h0 h1 a1 a2 a3 a4 a5 a6 a7
      go_enter Try.func29, Try.ntmps29
      go_wp2_with fail
      refine (CI _).mono ?_
      rintro e w1 ⟨rfl, rfl⟩
      clear CI
      by_cases hx : 0 ≤ ix
      all_goals
        go_wp2
        go_ret
        refine ⟨?_, rfl⟩
        rw [HS.out]
        simp [hx]
        try rfl
end Go.Proofs.Ytkghglncmekdgaa
