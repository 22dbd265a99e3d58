/- The walk of RunesJoins. Conditions: both slices read in memory. -/
import Derived.Test.YtpgfjgakhbnpkaaRm
namespace Go.Proofs.Ytpgfjgakhbnpkaa
open Go.RowKit

set_option maxRecDepth 100000 in
set_option maxHeartbeats 2000000 in
theorem joins_walk (A : Option Addr) (n c : Nat) (zs : List Int) (B : Option Addr) (m d : Nat) (us : List Int) (w : World) (hI : IsRow .u8 w A n c zs) (_y : n * 1 ≤ 140737488351232) (hJ : IsRow .u8 w B m d us) (_y' : m * 1 ≤ 140737488351232) :
    Calls Try.prog 7 #[.slice A n c, .slice B m d] w (Works w) := by
  obtain ⟨i5, hi5, hz5, hs5, hb5⟩ := info_parts info_u8
  obtain ⟨i2, hi2, hz2, hs2, hb2⟩ := info_parts info_i64
  have I5 := Lib.hid hi5
  have Z5 := Lib.hid hz5
  have S5 := Lib.hid hs5
  have B5 := Lib.hid hb5
  have I2 := Lib.hid hi2
  have Z2 := Lib.hid hz2
  have S2 := Lib.hid hs2
  have B2 := Lib.hid hb2
  clear hi5 hz5 hs5 hb5 hi2 hz2 hs2 hb2
  obtain ⟨hr, hl, hc, hA, hwf⟩ := hI.row
  generalize zs.take n = l at hr hl hwf
  obtain ⟨hr', hl', hc', hA', hwf'⟩ := hJ.row
  generalize us.take m = r at hr' hl' hwf'
  have hn63 : n ≤ 9223372036854775807 := by rw [← hl]; exact hr.1
  have hm63 : m ≤ 9223372036854775807 := by rw [← hl']; exact hr'.1
  have HR := Lib.hid hr
  have HL := Lib.hid hl
  have HBy := Lib.hid (wf_bytes hwf)
  have HF := Lib.hid (show Few l n by rw [← hl]; exact few_len l)
  have HR' := Lib.hid hr'
  have HL' := Lib.hid hl'
  have HBy' := Lib.hid (wf_bytes hwf')
  have HF' := Lib.hid (show Few r m by rw [← hl']; exact few_len r)
  have HBB := Lib.hid (show Spec.Bytes (l ++ r) from fun x hx => (List.mem_append.1 hx).elim (wf_bytes hwf x) (wf_bytes hwf' x))
  have HFF := Lib.hid (show Few (l ++ r) (n + m) by rw [← hl, ← hl', ← List.length_append]; exact few_len _)
  clear hI hr hl hA hwf hJ hr' hl' hA' hwf'
  have hgo : ∀ w1, Below w.heap.size w w1 → Calls Try.prog 12 #[] w1 (Works w) := fun w1 hb => (works_any w1).mono (by rintro e w2 ⟨rfl, h2⟩; exact ⟨rfl, below_then hb hb.size h2⟩)
  rcases Nat.lt_or_ge 65536 n with hn | hn
  · go_enter Try.func7, Try.ntmps7
    go_wp2_with fail
    refine (hgo w (Below.refl _ _)).mono ?_
    rintro e w2 ⟨rfl, h2⟩
    have H2 := Lib.hid h2
    clear h2
    go_wp2
    go_ret
    exact ⟨rfl, H2.out⟩
  rcases Nat.lt_or_ge 65536 m with hm | hm
  · go_enter Try.func7, Try.ntmps7
    go_wp2_with fail
    refine (hgo w (Below.refl _ _)).mono ?_
    rintro e w2 ⟨rfl, h2⟩
    have H2 := Lib.hid h2
    clear h2
    go_wp2
    go_ret
    exact ⟨rfl, H2.out⟩
  clear hn63 hm63
  have HGO := Lib.hid hgo
  clear hgo
  go_enter Try.func7, Try.ntmps7
  go_wp2_with fail
  refine (read_any A n c l w n HR.out HL.out hc HBy.out HF.out (by omega)).mono ?_
  rintro e w1 ⟨v1, xs, a1, e1, rfl, hrd1, ho1, hb1⟩
  obtain ⟨A1, c1, rfl, hc1, _, _, _, hrow1⟩ := own_row ho1
  have HO1 := Lib.hid hrow1
  have HB1 := Lib.hid hb1
  have HR1 := Lib.hid (HR.out.below hb1)
  have HS1 := Lib.hid (HR'.out.below hb1)
  have HD1 := Lib.hid hrd1
  clear ho1 hb1 hrow1 hrd1
  generalize hx : xs.length = q at *
  have HX := Lib.hid hx
  clear hx
  go_wp2_with (first
    | (at_builtin; refine wp_append_read (w0 := w1) (.tmp 32) (.tmp 33) 23 5 rfl rfl .u8 i5 1 Try.underlying23 I5.out Z5.out S5.out B5.out _ 0 [] l A n c rfl rfl ((Below.refl _ w1).alloc (Nat.le_refl _) _) (own_empty .u8 w1 5) HR1.out HL.out (by omega) (by decide) ?_; intro v3 w3 ho3 hb3)
    | (at_builtin; refine wp_append_read (w0 := w1) (.tmp 34) (.tmp 35) 23 5 rfl rfl .u8 i5 1 Try.underlying23 I5.out Z5.out S5.out B5.out v3 (0 + n) ([] ++ l) r B m d rfl rfl hb3 ho3 HS1.out HL'.out (by omega) (by decide) ?_; intro v4 w4 ho4 hb4))
  rw [List.nil_append, Nat.zero_add] at ho4
  obtain ⟨A4, c4, rfl, hc4, _, hl4, _, hrow4⟩ := own_row ho4
  refine (read_any A4 (n + m) c4 (l ++ r) w4 (n + m) hrow4 hl4 hc4 HBB.out HFF.out (by omega)).mono ?_
  rintro e w5 ⟨v5, all, a5, e5, rfl, hrd5, ho5, hb5⟩
  obtain ⟨A5, c5, rfl, hc5, _, _, _, hrow5⟩ := own_row ho5
  generalize hall : all.length = t at *
  have HT := Lib.hid hall
  have h15 := below_then hb4 hb4.size hb5
  have HA5 := Lib.hid hrow5
  have HR5 := Lib.hid (HR1.out.below h15)
  have HS5 := Lib.hid (HS1.out.below h15)
  have HO5 := Lib.hid (HO1.out.below h15)
  have HB5 := Lib.hid (below_then HB1.out HB1.out.size h15)
  have HD5 := Lib.hid hrd5
  clear ho3 hb3 hrd5 ho5 hb5 hrow5 hrow4 hl4 hb4 ho4 h15 hc4 hall
  rcases HD1.out with ⟨rfl, rfl, hg, hle⟩ | ⟨rfl, hxs, ys, p, rfl, hp, hg, ht, hn'⟩
  · have HE := Lib.hid hle
    have HG := Lib.hid hg
    have hxn : xs.length ≤ n := HF.out xs [] hg (by rw [List.append_nil]; exact hle)
    rw [HX.out] at hxn
    clear hle hg
    go_wp2_with fail
    refine (read_any B m d r w5 m HS5.out HL'.out hc' HBy'.out HF'.out (by omega)).mono ?_
    rintro e w6 ⟨v6, ys, a6, e6, rfl, hrd6, ho6, hb6⟩
    obtain ⟨A6, c6, rfl, hc6, _, _, _, hrow6⟩ := own_row ho6
    generalize hu : ys.length = u at *
    have HU := Lib.hid hu
    have HO6 := Lib.hid hrow6
    have HO56 := Lib.hid (HO5.out.below hb6)
    have HA6 := Lib.hid (HA5.out.below hb6)
    have HB6 := Lib.hid (below_then HB5.out HB5.out.size hb6)
    clear ho6 hb6 hrow6 hu
    rcases hrd6 with ⟨rfl, rfl, hgy, hley⟩ | ⟨rfl, hys, zs', p', rfl, hp', hgy, hty, hny⟩
    · obtain ⟨rfl, hall⟩ := joins_good HE.out HG.out hgy hley HD5.out
      have HALL := Lib.hid hall
      have hyn : ys.length ≤ m := HF'.out ys [] hgy (by rw [List.append_nil]; exact hley)
      rw [HU.out] at hyn
      clear hgy hley hall
      go_wp2_with (first
        | (at_builtin; refine wp_append_read (w0 := w6) (.tmp 90) (.tmp 91) 22 2 rfl rfl .i64 i2 8 Try.underlying22 I2.out Z2.out S2.out B2.out _ 0 [] xs A1 q c1 rfl rfl ((Below.refl _ w6).alloc (Nat.le_refl _) _) (own_empty .i64 w6 2) HO56.out HX.out (by omega) (by decide) ?_; intro v7 w7 ho7 hb7)
        | (at_builtin; refine wp_append_read (w0 := w6) (.tmp 92) (.tmp 93) 22 2 rfl rfl .i64 i2 8 Try.underlying22 I2.out Z2.out S2.out B2.out v7 (0 + q) ([] ++ xs) ys A6 u c6 rfl rfl hb7 ho7 HO6.out HU.out (by omega) (by decide) ?_; intro v8 w8 ho8 hb8))
      rw [List.nil_append, Nat.zero_add] at ho8
      obtain ⟨A8, c8, rfl, hc8, _, hl8, _, hrow8⟩ := own_row ho8
      have HA8 := HA6.out.below hb8
      refine (same_any A5 A8 t (q + u) c5 c8 all (xs ++ ys) w8 HA8 hrow8 HT.out hl8).mono ?_
      rintro e w9 ⟨rfl, hb9⟩
      rw [decide_eq_true HALL.out]
      have HB9 := Lib.hid (below_then HB6.out HB6.out.size (below_then hb8 hb8.size hb9))
      clear ho7 hb7 ho8 hb8 hc8 hl8 hrow8 HA8 hb9
      go_wp2_with fail
      refine (HGO.out _ HB9.out).mono ?_
      rintro e w10 ⟨rfl, h10⟩
      have H10 := Lib.hid h10
      clear h10
      go_wp2
      go_ret
      exact ⟨rfl, H10.out⟩
    · have hf := joins_second HE.out HG.out hgy hp' hty hny HD5.out
      subst hf
      clear hys hp' hgy hty hny
      go_wp2_with fail
      refine (HGO.out _ HB6.out).mono ?_
      rintro e w10 ⟨rfl, h10⟩
      have H10 := Lib.hid h10
      clear h10
      go_wp2
      go_ret
      exact ⟨rfl, H10.out⟩
  · obtain ⟨A', hcut, hrow'⟩ := cut_from (P := Try.prog) 23 5 Try.underlying23 I5.out S5.out A n c p (by rw [HL.out] at hp; omega) hc
    have HC := Lib.hid (hrow' w5 .u8 l HL.out HR5.out)
    have hpn : p < n := by rw [HL.out] at hp; exact hp
    have HLD := Lib.hid (show (l.drop p).length = n - p by rw [List.length_drop, HL.out])
    have HBD := Lib.hid (show Spec.Bytes (l.drop p ++ r) from fun x hx => HBB.out x ((List.mem_append.1 hx).elim (fun h => List.mem_append_left _ (List.mem_of_mem_drop h)) (List.mem_append_right _)))
    have h128 := joins_sign HBD.out hn' (by intro h; have := HLD.out; rw [h, List.length_nil] at this; omega)
    have hnon : ¬ 0 < (Spec.one (l.drop p ++ r)).2 → e5 = 3 ∧ a5 = (p : Int) := fun h => joins_first hg hp ht (joins_none HBD.out h) HD5.out
    have H128 := Lib.hid h128
    have HNON := Lib.hid hnon
    clear hrow' hp hg ht hn' hxs h128 hnon
    go_wp2_with (first
      | (at_builtin; refine wp_append_read (w0 := w5) (.tmp 44) (.tmp 47) 23 5 rfl rfl .u8 i5 1 Try.underlying23 I5.out Z5.out S5.out B5.out _ 0 [] (l.drop p) A' (n - p) (c - p) rfl rfl ((Below.refl _ w5).alloc (Nat.le_refl _) _) (own_empty .u8 w5 5) HC.out HLD.out (by omega) (by decide) ?_; intro v7 w7 ho7 hb7)
      | (at_builtin; refine wp_append_read (w0 := w5) (.tmp 48) (.tmp 49) 23 5 rfl rfl .u8 i5 1 Try.underlying23 I5.out Z5.out S5.out B5.out v7 (0 + (n - p)) ([] ++ l.drop p) r B m d rfl rfl hb7 ho7 HS5.out HL'.out (by omega) (by decide) ?_; intro v8 w8 ho8 hb8))
    rw [List.nil_append, Nat.zero_add] at ho8
    obtain ⟨A8, c8, rfl, hc8, _, hl8, _, hrow8⟩ := own_row ho8
    refine (rone_any A8 (n - p + m) c8 (l.drop p ++ r) w8 hrow8 hl8 hc8 HBD.out).mono ?_
    rintro e w9 ⟨rfl, hb9⟩
    have HB9 := Lib.hid (below_then HB5.out HB5.out.size (below_then hb8 hb8.size hb9))
    have h1 := H128.out
    have h2 := HNON.out
    clear ho7 hb7 ho8 hb8 hc8 hl8 hrow8 hb9 H128 HNON HBD
    generalize Spec.one (l.drop p ++ r) = z at h1 h2 ⊢
    obtain ⟨z1, z2⟩ := z
    dsimp only at h1 h2 ⊢
    by_cases hz : 0 < z2
    · have h3 := h1 hz
      clear h1 h2
      go_wp2_with fail
      refine (HGO.out _ HB9.out).mono ?_
      rintro e w10 ⟨rfl, h10⟩
      have H10 := Lib.hid h10
      clear h10
      go_wp2
      go_ret
      exact ⟨rfl, H10.out⟩
    · obtain ⟨rfl, rfl⟩ := h2 (by omega)
      clear h1 h2
      go_wp2_with fail
      refine (HGO.out _ HB9.out).mono ?_
      rintro e w10 ⟨rfl, h10⟩
      have H10 := Lib.hid h10
      clear h10
      go_wp2
      go_ret
      exact ⟨rfl, H10.out⟩
end Go.Proofs.Ytpgfjgakhbnpkaa
