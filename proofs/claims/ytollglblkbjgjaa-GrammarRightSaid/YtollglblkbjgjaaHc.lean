/- Contracts of the reference's blanks and numbers. Conditions: the text is no longer than a million bytes. -/
import Derived.Test.YtollglblkbjgjaaHb
namespace Go.Proofs.Ytollglblkbjgjaa
open Go.RowKit

def skipB (s : ByteArray) : Nat → Nat → Nat
 | 0, i => i
 | f + 1, i => if i < s.size ∧ bt s i = 32 then skipB s f (i + 1) else i
/-- the place behind blanks -/
def blanks (s : ByteArray) (i : Nat) : Nat := skipB s (s.size - i) i
theorem skipB_le (s : ByteArray) : ∀ (f i : Nat), i ≤ s.size → i ≤ skipB s f i ∧ skipB s f i ≤ s.size
 | 0, i, h => ⟨Nat.le_refl _, h⟩
 | f + 1, i, h => by
  unfold skipB
  split
  ·have := skipB_le s f (i + 1) (by omega)
   omega
  ·omega
theorem blanks_le {s : ByteArray} {i : Nat} (h : i ≤ s.size) : i ≤ blanks s i ∧ blanks s i ≤ s.size := skipB_le s _ i h
set_option maxRecDepth 100000 in
set_option maxHeartbeats 2000000 in
theorem blanks_any (s : ByteArray) (i : Nat) (w : World) (hs : s.size ≤ 1000000) (hi : i ≤ s.size) : Calls Try.prog 23 #[.string s, .int .i64 (i : Int)] w (Says (.int .i64 ((blanks s i : Nat) : Int)) w) := by
 obtain ⟨R, hR⟩ : ∃ R, blanks s i = R := ⟨_, rfl⟩
 rw [hR]
 have HR := Lib.hid hR
 clear hR
 go_enter Try.func23, Try.ntmps23
 go_wp2
 go_loopg [1] (s.size - i) (fun g q wr => ∃ k : Nat, q = .int .i64 k ∧ i ≤ k ∧ k + g = s.size ∧ wr = w ∧ skipB s g k = R)
 case atStart => exact ⟨i, rfl, Nat.le_refl _, by omega, rfl, HR.out⟩
 case round =>
  obtain ⟨k, rfl, hik, hk, rfl, hM⟩ := hrel
  by_cases hlt : k < s.size
  ·obtain ⟨g, rfl⟩ : ∃ g, gk = g + 1 := ⟨gk - 1, by omega⟩
   have hj0 : (0 : Int) ≤ (k : Int) := by omega
   have hj1 : (k : Int) < (s.size : Int) := by omega
   have d1 : decide ((k : Int) < (s.size : Int)) = true := decide_eq_true (by omega)
   have hbg := bt_get s k hlt
   rw [skipB] at hM
   by_cases h32 : bt s k = 32
   ·rw [if_pos ⟨hlt, h32⟩] at hM
    have b1 : (bt s k == 32) = true := beq_iff_eq.2 h32
    have HM := Lib.hid hM
    clear hM h32
    go_wp2
    go_roundg g
    case rel => exact ⟨k + 1, by go_num, by omega, by omega, rfl, HM.out⟩
    case measure => exact Nat.lt_succ_self g
   ·rw [if_neg (fun h => h32 h.2)] at hM
    have b1 : (bt s k == 32) = false := beq_eq_false_iff_ne.2 h32
    subst hM
    clear h32
    go_wp2
    refine bodyPost_ret (v := .int .i64 (k : Int)) (by simp [results, Try.results23, go_sem]) rfl ?_
    exact ⟨rfl, rfl⟩
  ·obtain rfl : gk = 0 := by omega
   obtain rfl : k = s.size := by omega
   have d1 : decide ((s.size : Int) < (s.size : Int)) = false := decide_eq_false (by omega)
   rw [skipB] at hM
   subst hM
   go_wp2
   refine bodyPost_ret (v := .int .i64 (s.size : Int)) (by simp [results, Try.results23, go_sem]) rfl ?_
   exact ⟨rfl, rfl⟩
def skipD (s : ByteArray) : Nat → Nat → Nat
 | 0, i => i
 | f + 1, i => if digAt s i = true then skipD s f (i + 1) else i
/-- the place behind digits -/
def digits (s : ByteArray) (i : Nat) : Nat := skipD s (s.size - i) i
theorem digAt_lt {s : ByteArray} {i : Nat} (h : digAt s i = true) : i < s.size := by
 unfold digAt at h
 rw [Bool.and_eq_true] at h
 exact of_decide_eq_true h.1
theorem skipD_le (s : ByteArray) : ∀ (f i : Nat), i ≤ s.size → i ≤ skipD s f i ∧ skipD s f i ≤ s.size
 | 0, i, h => ⟨Nat.le_refl _, h⟩
 | f + 1, i, h => by
  unfold skipD
  split
  ·rename_i hd
   have := digAt_lt hd
   have := skipD_le s f (i + 1) (by omega)
   omega
  ·omega
theorem digits_le {s : ByteArray} {i : Nat} (h : i ≤ s.size) : i ≤ digits s i ∧ digits s i ≤ s.size := skipD_le s _ i h
theorem digits_pos {s : ByteArray} {i : Nat} (h : digAt s i = true) : i + 1 ≤ digits s i := by
 have hlt := digAt_lt h
 unfold digits
 rw [show s.size - i = (s.size - i - 1) + 1 by omega, skipD, if_pos h]
 exact (skipD_le s _ (i + 1) (by omega)).1
def numAt (s : ByteArray) (i : Nat) (p : ByteArray) : Nat := if startsM s i p = true then i + p.size else i
theorem num_facts (c : Int) (h : dig c = true) : ¬ ((0 : Int) < wrap64 ((wrap64 (-9223372036854775808 + wrap64 (wrap64 c - 48))).tdiv 10)) ∧ -9 ≤ wrap64 (wrap64 (0 * 10) - wrap64 (wrap64 c - 48)) ∧ wrap64 (wrap64 (0 * 10) - wrap64 (wrap64 c - 48)) ≤ 0 := by
 unfold dig at h
 rw [Bool.and_eq_true] at h
 have h1 := of_decide_eq_true h.1
 have h2 := of_decide_eq_true h.2
 clear h
 have : c = 48 ∨ c = 49 ∨ c = 50 ∨ c = 51 ∨ c = 52 ∨ c = 53 ∨ c = 54 ∨ c = 55 ∨ c = 56 ∨ c = 57 := by omega
 clear h1 h2
 rcases this with rfl | rfl | rfl | rfl | rfl | rfl | rfl | rfl | rfl | rfl <;> decide +kernel
def NumTo (s : ByteArray) (i : Nat) (p : ByteArray) (w : World) (e : Ending) (w' : World) : Prop := ∃ (n : Int) (ok : Bool), e = .returned (.tuple #[.int .i64 n, .int .i64 ((digits s (numAt s i p) : Nat) : Int), .bool ok]) ∧ w' = w ∧ (digits s (numAt s i p) ≤ numAt s i p + 1 → ok = true)
set_option maxRecDepth 100000 in
set_option maxHeartbeats 4000000 in
theorem number_any (s p : ByteArray) (i : Nat) (w : World) (hs : s.size ≤ 1000000) (hi : i ≤ s.size) (hp : p.size ≤ 1000) : Calls Try.prog 65 #[.string s, .int .i64 (i : Int), .string p] w (NumTo s i p w) := by
 have hw : IntKind.i64.wrap ((i : Int) + (p.size : Int)) = (((i + p.size : Nat)) : Int) := (wraps_i64 _ (by omega) (by omega)).trans (by omega)
 have HST := Lib.hid (starts_any s p i w hs (by omega) hp)
 have HD := Lib.hid (fun (c : Int) (w : World) => digit_any c w)
 cases hst : startsM s i p with
 | true =>
  have hle := starts_le hst
  rw [hst] at HST
  have hna : numAt s i p = i + p.size := if_pos hst
  unfold NumTo
  rw [hna]
  clear hna hst
  generalize i + p.size = j0 at *
  obtain ⟨R, hR⟩ : ∃ R, digits s j0 = R := ⟨_, rfl⟩
  rw [hR]
  have HR := Lib.hid hR
  clear hR
  go_enter Try.func65, Try.ntmps65
  go_wp2_with fail
  refine HST.out.mono ?_
  rintro e w1 ⟨rfl, hww⟩
  obtain rfl : w = w1 := hww.symm
  go_wp2
  go_loopg [1, 10, 11] (s.size - j0) (fun g q n ok wr => ∃ (k : Nat) (x : Int) (b : Bool), q = .int .i64 k ∧ n = .int .i64 x ∧ ok = .bool b ∧ j0 ≤ k ∧ k + g = s.size ∧ wr = w ∧ skipD s g k = R ∧ (k = j0 → x = 0) ∧ (k ≤ j0 + 1 → b = true ∧ -9 ≤ x ∧ x ≤ 0))
  case atStart => exact ⟨j0, 0, true, rfl, rfl, rfl, Nat.le_refl _, by omega, rfl, HR.out, fun _ => rfl, fun _ => ⟨rfl, by omega, by omega⟩⟩
  case round =>
   obtain ⟨k, x, b, rfl, rfl, rfl, hik, hk, rfl, hM, hx0, hb1⟩ := hrel
   have HX0 := Lib.hid hx0
   have HB1 := Lib.hid hb1
   clear hx0 hb1
   by_cases hlt : k < s.size
   ·obtain ⟨g, rfl⟩ : ∃ g, gk = g + 1 := ⟨gk - 1, by omega⟩
    have hj0 : (0 : Int) ≤ (k : Int) := by omega
    have hj1 : (k : Int) < (s.size : Int) := by omega
    have d1 : decide ((k : Int) < (s.size : Int)) = true := decide_eq_true (by omega)
    have hbg := bt_get s k hlt
    rw [skipD] at hM
    cases hd : digAt s k with
    | true =>
     rw [if_pos hd] at hM
     have hdig : dig (bt s k) = true := by unfold digAt at hd; rw [decide_eq_true hlt, Bool.true_and] at hd; exact hd
     have HM := Lib.hid hM
     have HDG := Lib.hid hdig
     clear hM hd
     by_cases hk0 : k = j0
     ·have hx := HX0.out hk0
      have hnf := num_facts _ hdig
      rw [← hx] at hnf
      have d2 : decide (x < wrap64 ((wrap64 (-9223372036854775808 + wrap64 (wrap64 (bt s k) - 48))).tdiv 10)) = false := decide_eq_false hnf.1
      have HNF := Lib.hid (And.intro hnf.2.1 (show wrap64 (wrap64 (x * 10) - wrap64 (wrap64 (bt s k) - 48)) ≤ 0 by have := hnf.2.2; omega))
      have HBB := Lib.hid (HB1.out (by omega)).1
      clear hx hnf hdig hk0
      go_wp2_with fail
      refine (HD.out _ _).mono ?_
      rintro e w1 ⟨rfl, hww⟩
      obtain rfl : wr = w1 := hww.symm
      rw [HDG.out]
      go_wp2_with fail
      go_roundg g
      case rel => exact ⟨k + 1, _, _, by go_num, rfl, rfl, by omega, by omega, rfl, HM.out, fun h => by omega, fun _ => ⟨HBB.out, HNF.out⟩⟩
      case measure => exact Nat.lt_succ_self g
     ·clear hdig
      cases d2 : decide (x < wrap64 ((wrap64 (-9223372036854775808 + wrap64 (wrap64 (bt s k) - 48))).tdiv 10)) with
      | true =>
       go_wp2_with fail
       refine (HD.out _ _).mono ?_
       rintro e w1 ⟨rfl, hww⟩
       obtain rfl : wr = w1 := hww.symm
       rw [HDG.out]
       go_wp2_with fail
       go_roundg g
       case rel => exact ⟨k + 1, _, _, by go_num, rfl, rfl, by omega, by omega, rfl, HM.out, fun h => by omega, fun h => by omega⟩
       case measure => exact Nat.lt_succ_self g
      | false =>
       go_wp2_with fail
       refine (HD.out _ _).mono ?_
       rintro e w1 ⟨rfl, hww⟩
       obtain rfl : wr = w1 := hww.symm
       rw [HDG.out]
       go_wp2_with fail
       go_roundg g
       case rel => exact ⟨k + 1, _, _, by go_num, rfl, rfl, by omega, by omega, rfl, HM.out, fun h => by omega, fun h => by omega⟩
       case measure => exact Nat.lt_succ_self g
    | false =>
     rw [if_neg (by rw [hd]; decide)] at hM
     have hdig : dig (bt s k) = false := by unfold digAt at hd; rw [decide_eq_true hlt, Bool.true_and] at hd; exact hd
     have HDG := Lib.hid hdig
     subst hM
     clear hd hdig
     go_wp2_with fail
     refine (HD.out _ _).mono ?_
     rintro e w1 ⟨rfl, hww⟩
     obtain rfl : wr = w1 := hww.symm
     rw [HDG.out]
     go_wp2_with fail
     refine bodyPost_ret (v := .tuple #[.int .i64 x, .int .i64 (k : Int), .bool b]) (by simp [results, Try.results65, go_sem]) rfl ?_
     exact ⟨x, b, rfl, rfl, fun h => (HB1.out h).1⟩
   ·obtain rfl : gk = 0 := by omega
    obtain rfl : k = s.size := by omega
    have d1 : decide ((s.size : Int) < (s.size : Int)) = false := decide_eq_false (by omega)
    rw [skipD] at hM
    subst hM
    go_wp2_with fail
    refine bodyPost_ret (v := .tuple #[.int .i64 x, .int .i64 (s.size : Int), .bool b]) (by simp [results, Try.results65, go_sem]) rfl ?_
    exact ⟨x, b, rfl, rfl, fun h => (HB1.out h).1⟩
 | false =>
  rw [hst] at HST
  have hna : numAt s i p = i := if_neg (by rw [hst]; decide)
  unfold NumTo
  rw [hna]
  clear hna hst
  obtain ⟨R, hR⟩ : ∃ R, digits s i = R := ⟨_, rfl⟩
  rw [hR]
  have HR := Lib.hid hR
  clear hR
  go_enter Try.func65, Try.ntmps65
  go_wp2_with fail
  refine HST.out.mono ?_
  rintro e w1 ⟨rfl, hww⟩
  obtain rfl : w = w1 := hww.symm
  go_wp2
  go_loopg [1, 10, 11] (s.size - i) (fun g q n ok wr => ∃ (k : Nat) (x : Int) (b : Bool), q = .int .i64 k ∧ n = .int .i64 x ∧ ok = .bool b ∧ i ≤ k ∧ k + g = s.size ∧ wr = w ∧ skipD s g k = R ∧ (k = i → x = 0) ∧ (k ≤ i + 1 → b = true ∧ -9 ≤ x ∧ x ≤ 0))
  case atStart => exact ⟨i, 0, true, rfl, rfl, rfl, Nat.le_refl _, by omega, rfl, HR.out, fun _ => rfl, fun _ => ⟨rfl, by omega, by omega⟩⟩
  case round =>
   obtain ⟨k, x, b, rfl, rfl, rfl, hik, hk, rfl, hM, hx0, hb1⟩ := hrel
   have HX0 := Lib.hid hx0
   have HB1 := Lib.hid hb1
   clear hx0 hb1
   by_cases hlt : k < s.size
   ·obtain ⟨g, rfl⟩ : ∃ g, gk = g + 1 := ⟨gk - 1, by omega⟩
    have hj0 : (0 : Int) ≤ (k : Int) := by omega
    have hj1 : (k : Int) < (s.size : Int) := by omega
    have d1 : decide ((k : Int) < (s.size : Int)) = true := decide_eq_true (by omega)
    have hbg := bt_get s k hlt
    rw [skipD] at hM
    cases hd : digAt s k with
    | true =>
     rw [if_pos hd] at hM
     have hdig : dig (bt s k) = true := by unfold digAt at hd; rw [decide_eq_true hlt, Bool.true_and] at hd; exact hd
     have HM := Lib.hid hM
     have HDG := Lib.hid hdig
     clear hM hd
     by_cases hk0 : k = i
     ·have hx := HX0.out hk0
      have hnf := num_facts _ hdig
      rw [← hx] at hnf
      have d2 : decide (x < wrap64 ((wrap64 (-9223372036854775808 + wrap64 (wrap64 (bt s k) - 48))).tdiv 10)) = false := decide_eq_false hnf.1
      have HNF := Lib.hid (And.intro hnf.2.1 (show wrap64 (wrap64 (x * 10) - wrap64 (wrap64 (bt s k) - 48)) ≤ 0 by have := hnf.2.2; omega))
      have HBB := Lib.hid (HB1.out (by omega)).1
      clear hx hnf hdig hk0
      go_wp2_with fail
      refine (HD.out _ _).mono ?_
      rintro e w1 ⟨rfl, hww⟩
      obtain rfl : wr = w1 := hww.symm
      rw [HDG.out]
      go_wp2_with fail
      go_roundg g
      case rel => exact ⟨k + 1, _, _, by go_num, rfl, rfl, by omega, by omega, rfl, HM.out, fun h => by omega, fun _ => ⟨HBB.out, HNF.out⟩⟩
      case measure => exact Nat.lt_succ_self g
     ·clear hdig
      cases d2 : decide (x < wrap64 ((wrap64 (-9223372036854775808 + wrap64 (wrap64 (bt s k) - 48))).tdiv 10)) with
      | true =>
       go_wp2_with fail
       refine (HD.out _ _).mono ?_
       rintro e w1 ⟨rfl, hww⟩
       obtain rfl : wr = w1 := hww.symm
       rw [HDG.out]
       go_wp2_with fail
       go_roundg g
       case rel => exact ⟨k + 1, _, _, by go_num, rfl, rfl, by omega, by omega, rfl, HM.out, fun h => by omega, fun h => by omega⟩
       case measure => exact Nat.lt_succ_self g
      | false =>
       go_wp2_with fail
       refine (HD.out _ _).mono ?_
       rintro e w1 ⟨rfl, hww⟩
       obtain rfl : wr = w1 := hww.symm
       rw [HDG.out]
       go_wp2_with fail
       go_roundg g
       case rel => exact ⟨k + 1, _, _, by go_num, rfl, rfl, by omega, by omega, rfl, HM.out, fun h => by omega, fun h => by omega⟩
       case measure => exact Nat.lt_succ_self g
    | false =>
     rw [if_neg (by rw [hd]; decide)] at hM
     have hdig : dig (bt s k) = false := by unfold digAt at hd; rw [decide_eq_true hlt, Bool.true_and] at hd; exact hd
     have HDG := Lib.hid hdig
     subst hM
     clear hd hdig
     by_cases hx : x = -9223372036854775808
     ·have b1 : (x == -9223372036854775808) = true := beq_iff_eq.2 hx
      have HXX := Lib.hid hx
      clear hx
      go_wp2_with fail
      refine (HD.out _ _).mono ?_
      rintro e w1 ⟨rfl, hww⟩
      obtain rfl : wr = w1 := hww.symm
      rw [HDG.out]
      go_wp2_with fail
      refine bodyPost_ret (v := .tuple #[.int .i64 0, .int .i64 (k : Int), .bool false]) (by simp [results, Try.results65, go_sem]) rfl ?_
      exact ⟨0, false, rfl, rfl, fun h => by have := (HB1.out h).2.1; have := HXX.out; omega⟩
     ·have b1 : (x == -9223372036854775808) = false := beq_eq_false_iff_ne.2 hx
      clear hx
      go_wp2_with fail
      refine (HD.out _ _).mono ?_
      rintro e w1 ⟨rfl, hww⟩
      obtain rfl : wr = w1 := hww.symm
      rw [HDG.out]
      go_wp2_with fail
      refine bodyPost_ret (v := .tuple #[.int .i64 (wrap64 (-x)), .int .i64 (k : Int), .bool b]) (by simp [results, Try.results65, go_sem]) rfl ?_
      exact ⟨_, b, rfl, rfl, fun h => (HB1.out h).1⟩
   ·obtain rfl : gk = 0 := by omega
    obtain rfl : k = s.size := by omega
    have d1 : decide ((s.size : Int) < (s.size : Int)) = false := decide_eq_false (by omega)
    rw [skipD] at hM
    subst hM
    by_cases hx : x = -9223372036854775808
    ·have b1 : (x == -9223372036854775808) = true := beq_iff_eq.2 hx
     have HXX := Lib.hid hx
     clear hx
     go_wp2_with fail
     refine bodyPost_ret (v := .tuple #[.int .i64 0, .int .i64 (s.size : Int), .bool false]) (by simp [results, Try.results65, go_sem]) rfl ?_
     exact ⟨0, false, rfl, rfl, fun h => by have := (HB1.out h).2.1; have := HXX.out; omega⟩
    ·have b1 : (x == -9223372036854775808) = false := beq_eq_false_iff_ne.2 hx
     clear hx
     go_wp2_with fail
     refine bodyPost_ret (v := .tuple #[.int .i64 (wrap64 (-x)), .int .i64 (s.size : Int), .bool b]) (by simp [results, Try.results65, go_sem]) rfl ?_
     exact ⟨_, b, rfl, rfl, fun h => (HB1.out h).1⟩
end Go.Proofs.Ytollglblkbjgjaa
