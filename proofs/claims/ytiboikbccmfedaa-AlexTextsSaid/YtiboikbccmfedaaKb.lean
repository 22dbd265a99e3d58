/- Contract of the program's runes.One: the first sign of any bytes. Conditions: the bytes read in memory. -/
import Derived.Test.YtiboikbccmfedaaKa
namespace Go.Proofs.Ytiboikbccmfedaa
open Go.RowKit

theorem contv_append (v : Int) (xs ys : List Int) : Spec.contv v (xs ++ ys) = (Spec.contv v xs).bind fun u => Spec.contv u ys := by
  induction xs generalizing v with
  | nil => rfl
  | cons d r ih =>
    simp only [List.cons_append, Spec.contv]
    split
    · exact ih _
    · rfl

theorem one_eq (c : Int) (t : List Int) : Spec.one (c :: t) = if first1 c = 0 then (0, 0) else if (t.length : Int) + 1 < first1 c then (0, 0) else Spec.fin (first1 c) (Spec.contv (first2 c) (((c :: t).take (first1 c).toNat).drop 1)) := by
  rw [Spec.one]
  unfold first1 first2
  by_cases h1 : c < 128
  · simp only [if_pos h1]
    rw [if_neg (by omega), if_neg (by omega)]
    rfl
  · simp only [if_neg h1]
    by_cases h2 : c < 192 ∨ 248 ≤ c
    · simp only [if_pos h2]
      rfl
    · simp only [if_neg h2]
      by_cases h3 : c < 224
      · simp only [if_pos h3]
        rw [if_neg (show ¬ (2 : Int) = 0 by omega)]
        by_cases h4 : t.length < 1
        · rw [if_pos h4, if_pos (by omega)]
        · rw [if_neg h4, if_neg (by omega)]; rfl
      · simp only [if_neg h3]
        by_cases h3' : c < 240
        · simp only [if_pos h3']
          rw [if_neg (show ¬ (3 : Int) = 0 by omega)]
          by_cases h4 : t.length < 2
          · rw [if_pos h4, if_pos (by omega)]
          · rw [if_neg h4, if_neg (by omega)]; rfl
        · simp only [if_neg h3']
          rw [if_neg (show ¬ (4 : Int) = 0 by omega)]
          by_cases h4 : t.length < 3
          · rw [if_pos h4, if_pos (by omega)]
          · rw [if_neg h4, if_neg (by omega)]; rfl

theorem first_rng (c : Int) (h0 : 0 ≤ c) (h1 : c ≤ 255) : ∃ k : Nat, first1 c = k ∧ k ≤ 4 ∧ 0 ≤ first2 c ∧ first2 c < 128 ∧ (k ≠ 1 → first2 c < 64) := by
  refine ⟨(first1 c).toNat, ?_, ?_, ?_, ?_, ?_⟩ <;> (try unfold first1) <;> (try unfold first2) <;> split <;> (try split) <;> (try split) <;> (try split) <;> omega

def OneTo (l : List Int) (w : World) (e : Ending) (w' : World) : Prop := e = .returned (.tuple #[.int .i64 (Spec.one l).1, .int .i64 (Spec.one l).2]) ∧ Below w.heap.size w w'

theorem bits_round (v d : Int) (h0 : 0 ≤ v) (h1 : v ≤ 1000000000000) (h2 : 0 ≤ d) (h3 : d ≤ 255) (h4 : 128 ≤ d ∧ d < 192) : bits .or .i64 (v * 64) (bits .and .u8 d 63) = v * 64 + (d - 128) := by
  rw [u8_and63 d h2 (by omega), or6 _ _ (by omega) (by omega) (by omega) (by omega) (by omega)]
  omega

set_option maxRecDepth 100000 in
set_option maxHeartbeats 2000000 in
theorem one_any (A : Option Addr) (n c : Nat) (l : List Int) (w : World) (hr : RowAt .u8 w A l) (hl : l.length = n) (hn : n ≤ c) (hb : Spec.Bytes l) :
    Calls Try.prog 19 #[.slice A n c] w (OneTo l w) := by
  cases l with
  | nil =>
    obtain rfl : n = 0 := by simpa using hl.symm
    clear hr hl hb
    go_enter Try.func19, Try.ntmps19
    go_wp2
    go_ret2
    exact ⟨rfl, Below.refl _ _⟩
  | cons a t =>
    obtain ⟨b, off, rfl, hcell⟩ := hr.2 (by simp)
    have ha := hb a (by simp)
    obtain ⟨k, hk, hk4, hv0, hv1, hv2⟩ := first_rng a ha.1 ha.2
    have HE := Lib.hid (one_eq a t)
    rw [hk] at HE
    have c0 : w.cell? ⟨b, off, none⟩ = some (.int .u8 a) := by simpa using hcell 0 (by simp)
    have HR := Lib.hid hr
    have HK := Lib.hid hk
    have HL := Lib.hid hl
    have hn1 : 1 ≤ n := by rw [← hl]; simp
    have HBy := Lib.hid hb
    have htl : (t.length : Int) + 1 = n := by rw [← hl]; simp
    have HT := Lib.hid htl
    clear hcell hr hk hl hb htl
    rcases (by omega : k = 0 ∨ n < k ∨ (1 ≤ k ∧ k ≤ n)) with h | h | ⟨h, h'⟩
    · subst h
      go_enter Try.func19, Try.ntmps19
      go_wp2_with fail
      refine (first_any a _ ha.1 ha.2).mono ?_
      rintro e w1 ⟨rfl, rfl⟩
      rw [HK.out]
      go_wp2
      go_ret2
      refine ⟨?_, Below.refl _ _⟩
      rw [HE.out]
      rfl
    · go_enter Try.func19, Try.ntmps19
      go_wp2_with fail
      refine (first_any a _ ha.1 ha.2).mono ?_
      rintro e w1 ⟨rfl, rfl⟩
      rw [HK.out]
      go_wp2
      go_ret2
      refine ⟨?_, Below.refl _ _⟩
      rw [HE.out, if_neg (by omega), if_pos (by have := HT.out; omega)]
      rfl
    · have hkz : ((k : Int) == 0) = false := by simp; omega
      obtain ⟨i5, hi5, hz5, hs5, _⟩ := info_parts info_u8
      obtain ⟨A', hcut, hrow⟩ := cut_mid (P := Try.prog) 39 5 Try.underlying39 hi5 hs5 (some ⟨b, off, none⟩) n c 1 k h h' hn
      have hcut' : ∀ W : World, (Instr.slice 39 (.slice (some ⟨b, off, none⟩) n c) (some (.int .i64 1)) (some (.int .i64 (k : Int))) none).run Try.prog W = .ok (.slice A' (k - 1) (c - 1)) W := hcut
      clear hcut
      have hs := hrow w .u8 (a :: t) HL.out HR.out
      obtain ⟨s, hse⟩ : ∃ s, List.drop 1 (List.take k (a :: t)) = s := ⟨_, rfl⟩
      rw [hse] at hs
      have hsl : s.length = k - 1 := by rw [← hse, List.length_drop, List.length_take, HL.out]; omega
      have hsb : Spec.Bytes s := by rw [← hse]; exact fun x hx => HBy.out x (List.mem_of_mem_take (List.mem_of_mem_drop hx))
      have HS := Lib.hid hs
      have HSL := Lib.hid hsl
      have HSB := Lib.hid hsb
      have HE2 := Lib.hid (show Spec.one (a :: t) = Spec.fin k (Spec.contv (first2 a) s) by rw [HE.out, if_neg (by omega), if_neg (by have := HT.out; omega), Int.toNat_natCast, hse])
      clear hs hsl hsb hrow hse HE
      go_enter Try.func19, Try.ntmps19
      go_wp2_with fail
      refine (first_any a _ ha.1 ha.2).mono ?_
      rintro e w1 ⟨rfl, rfl⟩
      rw [HK.out]
      go_wp2
      go_loop [5, 30] (fun acc i => ∃ (j : Nat) (v : Int), j ≤ k - 1 ∧ i = .int .i64 j ∧ acc = .int .i64 v ∧ Spec.contv (first2 a) (s.take j) = some v ∧ 0 ≤ v ∧ (j = 0 → v = first2 a) ∧ (j = 1 → v < 4096) ∧ (j = 2 → v < 262144) ∧ (j = 3 → v < 16777216)) (fun _ i => (k - 1) - (intOf i).toNat)
      case atStart => exact ⟨0, first2 a, Nat.zero_le _, rfl, rfl, by simp [Spec.contv], hv0, fun _ => rfl, by omega, by omega, by omega⟩
      case round =>
        obtain ⟨j, v, hj, rfl, rfl, hcv, hv, v0, v1, v2, v3⟩ := hrel
        have HC := Lib.hid hcv
        clear hcv
        by_cases hlt : j < k - 1
        · obtain ⟨b', off', rfl, hcell⟩ := HS.out.2 (by rw [HSL.out]; omega)
          have hjl : j < s.length := by rw [HSL.out]; exact hlt
          obtain ⟨d, hd⟩ : ∃ d, s.getD j 0 = d := ⟨_, rfl⟩
          have cj : w.cell? ⟨b', off' + j, none⟩ = some (.int .u8 d) := by rw [hcell j hjl, hd]
          have hdb : 0 ≤ d ∧ d ≤ 255 := by
            rw [← hd]
            have : s.getD j 0 ∈ s := by rw [List.getD_eq_getElem?_getD, List.getElem?_eq_getElem hjl]; exact List.getElem_mem hjl
            exact HSB.out _ this
          have htk : s.take (j + 1) = s.take j ++ [d] := by
            rw [List.take_succ_eq_append_getElem hjl, ← hd]
            simp [List.getD_eq_getElem?_getD, List.getElem?_eq_getElem hjl]
          have HTK := Lib.hid htk
          have hv4 : v < 262144 := by
            rcases (by omega : j = 0 ∨ j = 1 ∨ j = 2) with h | h | h
            · have := v0 h; have := hv2 (by omega); omega
            · have := v1 h; omega
            · have := v2 h; omega
          have HV0 := Lib.hid v0
          clear hcell htk hd v0
          by_cases hin : 128 ≤ d ∧ d < 192
          · have e1 : bits .and .u8 d 192 = 128 := (and192 d hdb.1 hdb.2).2 hin
            have hb6 := bits_round v d hv (by omega) hdb.1 hdb.2 hin
            have h64 : 0 ≤ bits .and .u8 d 63 := by rw [u8_and63 d hdb.1 (by omega)]; omega
            have h65 : bits .and .u8 d 63 ≤ 63 := by rw [u8_and63 d hdb.1 (by omega)]; omega
            have E6 := Lib.hid hb6
            clear hb6
            go_wp2
            go_round
            case rel =>
              refine ⟨j + 1, v * 64 + (d - 128), by omega, by go_num, ?_, ?_, by omega, by omega, ?_, ?_, ?_⟩
              · exact congrArg (Value.int .i64) (by rw [or6 _ _ (by omega) (by omega) (by omega) (by omega) (by omega)]; omega)
              · rw [HTK.out, contv_append, HC.out]
                simp [Spec.contv, hin.1, hin.2]
              · intro h; have := HV0.out (by omega); have := hv2 (by omega); omega
              · intro h; have := v1 (by omega); omega
              · intro h; have := v2 (by omega); omega
            case measure => simp [intOf]; omega
          · have e1 : ¬ bits .and .u8 d 192 = 128 := fun h => hin ((and192 d hdb.1 hdb.2).1 h)
            go_wp2
            go_ret2
            refine ⟨?_, Below.refl _ _⟩
            have hno : Spec.contv (first2 a) s = none := by
              rw [← List.take_append_drop (j + 1) s, HTK.out, contv_append, contv_append, HC.out]
              simp [Spec.contv, hin]
            rw [HE2.out, hno]
            rfl
        · obtain rfl : j = k - 1 := by omega
          have hfin : Spec.contv (first2 a) s = some v := by rw [← HC.out, List.take_of_length_le (by rw [HSL.out]; omega)]
          have HF := Lib.hid hfin
          clear hfin
          go_wp2_with fail
          refine (good_any v _).mono ?_
          rintro e w1 ⟨rfl, rfl⟩
          by_cases hg : Spec.good v = true
          · rw [hg]
            go_wp2_with fail
            have hp := put_any none [] v w (RowAt.nil _ _ _) (fun _ => rfl) (by simp) hg
            refine Calls.mono (by simpa using hp) ?_
            rintro e w2 ⟨pv, rfl, hown, hb2⟩
            obtain ⟨pA, pc, rfl, _⟩ := own_slice hown
            have HB2 := Lib.hid hb2
            clear hown hb2 hp
            by_cases hlen : ((Spec.enc v).length : Int) = k
            · have hlen' : (Spec.enc v).length = k := by omega
              simp only [List.nil_append]
              rw [hlen']
              go_wp2
              go_ret2
              refine ⟨?_, HB2.out⟩
              rw [HE2.out, HF.out, Spec.fin, if_pos ⟨hg, hlen⟩]
              rfl
            · simp only [List.nil_append]
              have hlen' : (((Spec.enc v).length : Int) == k) = false := by simpa using hlen
              have hlen'' : ¬ (Spec.enc v).length = k := by omega
              generalize hq : (Spec.enc v).length = q at hlen hlen' hlen'' ⊢
              have HQ := Lib.hid hq
              clear hq
              go_wp2
              go_ret2
              refine ⟨?_, HB2.out⟩
              rw [HE2.out, HF.out, Spec.fin, if_neg (fun h => hlen (by rw [← HQ.out]; exact h.2))]
              rfl
          · have hg' : Spec.good v = false := by simpa using hg
            rw [hg']
            go_wp2
            go_ret2
            refine ⟨?_, Below.refl _ _⟩
            rw [HE2.out, HF.out, Spec.fin, if_neg (fun h => hg h.1)]
            rfl
end Go.Proofs.Ytiboikbccmfedaa
