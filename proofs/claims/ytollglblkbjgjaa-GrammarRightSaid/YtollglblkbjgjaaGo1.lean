/- Contract of core.Name: may a text be a name. Conditions: none but the text's length. -/
import Derived.Test.YtollglblkbjgjaaGm
namespace Go.Proofs.Ytollglblkbjgjaa
open Go.RowKit

set_option maxRecDepth 100000 in
set_option maxHeartbeats 4000000 in
theorem name_any (s : ByteArray) (w : World) (hs : s.size ≤ 9223372036854775000) : Calls Try.prog 61 #[.string s] w (Says (.bool (nameOK s)) w) := by
 obtain ⟨R, hR⟩ : ∃ R, nameOK s = R := ⟨_, rfl⟩
 rw [hR]
 have HR := Lib.hid hR
 clear hR
 go_enter Try.func61, Try.ntmps61
 go_wp2
 go_loopg [7] s.size (fun f q wr => ∃ k : Nat, q = .int .i64 k ∧ k + f = s.size ∧ wr = w ∧ (nameGo s f k && (decide (0 < s.size) && decide (s.size ≤ 8))) = R)
 case atStart => exact ⟨0, rfl, by omega, rfl, HR.out⟩
 case round =>
  obtain ⟨k, rfl, hk, rfl, hM⟩ := hrel
  by_cases hlt : k < s.size
  ·obtain ⟨f, rfl⟩ : ∃ f, gk = f + 1 := ⟨gk - 1, by omega⟩
   obtain ⟨b, hb⟩ : ∃ b, s[k] = b := ⟨_, rfl⟩
   have hb' : s.data[k]? = some b := by rw [← hb]; exact Array.getElem?_eq_getElem hlt
   simp only [nameGo, nameCh, hb'] at hM
   have hj0 : (0 : Int) ≤ (k : Int) := by omega
   have hj1 : (k : Int) < (s.size : Int) := by omega
   obtain ⟨x, hx⟩ : ∃ x : Int, (b.toNat : Int) = x := ⟨_, rfl⟩
   rw [hx] at hM
   by_cases a1 : 97 ≤ x
   ·have e1 : decide (97 ≤ x) = true := decide_eq_true a1
    by_cases a2 : x ≤ 119
    ·have e2 : decide (x ≤ 119) = true := decide_eq_true a2
     have HM := Lib.hid (show (nameGo s f (k + 1) && (decide (0 < s.size) && decide (s.size ≤ 8))) = R from by simpa [a1, a2] using hM)
     clear hM
     go_wp2
     go_roundg f
     case rel => exact ⟨k + 1, by go_num, by omega, rfl, HM.out⟩
     case measure => exact Nat.lt_succ_self f
    ·have e2 : decide (x ≤ 119) = false := decide_eq_false a2
     by_cases k0 : k = 0
     ·have d0 : (k == 0) = true := beq_iff_eq.2 k0
      have d0' : ((k : Int) == 0) = true := beq_iff_eq.2 (by omega)
      have hRf : R = false := by rw [← hM]; simp [a1, a2, k0]
      subst hRf
      clear hM k0
      go_wp2
      refine bodyPost_ret (v := .bool false) (by simp [results, Try.results61, go_sem]) rfl ?_
      exact ⟨rfl, rfl⟩
     ·have d0 : (k == 0) = false := beq_eq_false_iff_ne.2 k0
      have d0' : ((k : Int) == 0) = false := beq_eq_false_iff_ne.2 (by omega)
      by_cases c1 : 48 ≤ x
      ·have e3 : decide (x < 48) = false := decide_eq_false (by omega)
       by_cases c2 : x ≤ 57
       ·have e4 : decide (57 < x) = false := decide_eq_false (by omega)
        have HM := Lib.hid (show (nameGo s f (k + 1) && (decide (0 < s.size) && decide (s.size ≤ 8))) = R from by simpa [a1, a2, k0, c1, c2] using hM)
        clear hM
        go_wp2
        go_roundg f
        case rel => exact ⟨k + 1, by go_num, by omega, rfl, HM.out⟩
        case measure => exact Nat.lt_succ_self f
       ·have e4 : decide (57 < x) = true := decide_eq_true (by omega)
        have hRf : R = false := by rw [← hM]; simp [a1, a2, k0, c1, c2]
        subst hRf
        clear hM
        go_wp2
        refine bodyPost_ret (v := .bool false) (by simp [results, Try.results61, go_sem]) rfl ?_
        exact ⟨rfl, rfl⟩
      ·have e3 : decide (x < 48) = true := decide_eq_true (by omega)
       have hRf : R = false := by rw [← hM]; simp [a1, a2, k0, c1]
       subst hRf
       clear hM
       go_wp2
       refine bodyPost_ret (v := .bool false) (by simp [results, Try.results61, go_sem]) rfl ?_
       exact ⟨rfl, rfl⟩
   ·have e1 : decide (97 ≤ x) = false := decide_eq_false a1
    by_cases k0 : k = 0
    ·have d0 : (k == 0) = true := beq_iff_eq.2 k0
     have d0' : ((k : Int) == 0) = true := beq_iff_eq.2 (by omega)
     have hRf : R = false := by rw [← hM]; simp [a1, k0]
     subst hRf
     clear hM k0
     go_wp2
     refine bodyPost_ret (v := .bool false) (by simp [results, Try.results61, go_sem]) rfl ?_
     exact ⟨rfl, rfl⟩
    ·have d0 : (k == 0) = false := beq_eq_false_iff_ne.2 k0
     have d0' : ((k : Int) == 0) = false := beq_eq_false_iff_ne.2 (by omega)
     by_cases c1 : 48 ≤ x
     ·have e3 : decide (x < 48) = false := decide_eq_false (by omega)
      by_cases c2 : x ≤ 57
      ·have e4 : decide (57 < x) = false := decide_eq_false (by omega)
       have HM := Lib.hid (show (nameGo s f (k + 1) && (decide (0 < s.size) && decide (s.size ≤ 8))) = R from by simpa [a1, k0, c1, c2] using hM)
       clear hM
       go_wp2
       go_roundg f
       case rel => exact ⟨k + 1, by go_num, by omega, rfl, HM.out⟩
       case measure => exact Nat.lt_succ_self f
      ·have e4 : decide (57 < x) = true := decide_eq_true (by omega)
       have hRf : R = false := by rw [← hM]; simp [a1, k0, c1, c2]
       subst hRf
       clear hM
       go_wp2
       refine bodyPost_ret (v := .bool false) (by simp [results, Try.results61, go_sem]) rfl ?_
       exact ⟨rfl, rfl⟩
     ·have e3 : decide (x < 48) = true := decide_eq_true (by omega)
      have hRf : R = false := by rw [← hM]; simp [a1, k0, c1]
      subst hRf
      clear hM
      go_wp2
      refine bodyPost_ret (v := .bool false) (by simp [results, Try.results61, go_sem]) rfl ?_
      exact ⟨rfl, rfl⟩
  ·
   obtain rfl : gk = 0 := by omega
   obtain rfl : k = s.size := by omega
   simp only [nameGo, Bool.true_and] at hM
   by_cases z1 : 0 < s.size
   ·have e1 : decide (0 < s.size) = true := decide_eq_true z1
    have e1' : decide ((0 : Int) < (s.size : Int)) = true := decide_eq_true (by omega)
    by_cases z2 : s.size ≤ 8
    ·have e2 : decide (s.size ≤ 8) = true := decide_eq_true z2
     have e2' : decide ((s.size : Int) ≤ 8) = true := decide_eq_true (by omega)
     have hRt : R = true := by rw [← hM, e1, e2]; rfl
     subst hRt
     clear hM
     go_wp2
     refine bodyPost_ret (v := .bool true) (by simp [results, Try.results61, go_sem]) rfl ?_
     exact ⟨rfl, rfl⟩
    ·have e2 : decide (s.size ≤ 8) = false := decide_eq_false z2
     have e2' : decide ((s.size : Int) ≤ 8) = false := decide_eq_false (by omega)
     have hRt : R = false := by rw [← hM, e2, Bool.and_false]
     subst hRt
     clear hM
     go_wp2
     refine bodyPost_ret (v := .bool false) (by simp [results, Try.results61, go_sem]) rfl ?_
     exact ⟨rfl, rfl⟩
   ·have e1 : decide (0 < s.size) = false := decide_eq_false z1
    have e1' : decide ((0 : Int) < (s.size : Int)) = false := decide_eq_false (by omega)
    have hRt : R = false := by rw [← hM, e1, Bool.false_and]
    subst hRt
    clear hM
    go_wp2
    refine bodyPost_ret (v := .bool false) (by simp [results, Try.results61, go_sem]) rfl ?_
    exact ⟨rfl, rfl⟩
end Go.Proofs.Ytollglblkbjgjaa
