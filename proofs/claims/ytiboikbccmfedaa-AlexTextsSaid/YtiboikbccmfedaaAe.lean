/- Contract of the lexer's one. Conditions: the lexer's block reads in memory; its place lies within the text. -/
import Derived.Test.YtiboikbccmfedaaAd
namespace Go.Proofs.Ytiboikbccmfedaa
open Go.RowKit

/-- what the digits come to -/
def DigTo (ds : List Int) (n ov : Value) : Prop := ov = .bool (decide (9223372036854775808 < Kx.val ds)) ∧ ∃ v : Int, n = .int .u64 v ∧ 0 ≤ v ∧ v < 18446744073709551616 ∧ (Kx.val ds ≤ 9223372036854775808 → v = Kx.val ds)
theorem mem_take_le {l : List Int} {q m : Nat} (h : q ≤ m) {x : Int} (hx : x ∈ l.take q) : x ∈ l.take m := by
  rw [show q = min q m by omega, ← List.take_take] at hx
  exact List.mem_of_mem_take hx
theorem take_snoc {l : List Int} {k : Nat} (h : k < l.length) : l.take (k + 1) = l.take k ++ [Kx.gt l k] := by
  rw [List.take_succ_eq_append_getElem h]
  congr
  unfold Kx.gt
  rw [List.getD_eq_getElem?_getD, List.getElem?_eq_getElem h]
  rfl
/-- behind a number: it and the place, or a fault -/
def OneNum (R : Int × Nat × Bool) (g : Nat) (s : ByteArray) (v : Value) (i : Nat) (fp : Int) (w : World) (e : Ending) (w' : World) : Prop :=
  ∃ x, e = .returned (.int .i64 x) ∧ (if R.2.2 then x = R.1 ∧ Moves g s v R.2.1 0 fp w w' else Moves g s v R.2.1 2 (i : Int) w w')

set_option maxRecDepth 100000 in
set_option maxHeartbeats 4000000 in
theorem one_num (g : Nat) (s : ByteArray) (v : Value) (i : Nat) (fp : Int) (w : World) (hg : w.heap[g]? = some (acell s v i 0 fp)) (hi : i < s.size) (hs : s.size ≤ 100000) :
    Calls Try.prog 35 #[.pointer (some ⟨g, 0, none⟩)] w (OneNum (Kx.numAt (nb s) i) g s v i fp w) := by
  obtain ⟨r, hr1, hr2, hcut⟩ := cut_any s i (by omega)
  have c0 := blk_cell hg 0
  have c1 := blk_cell hg 1
  have cf := blk_frozen hg 1
  obtain ⟨R, hR⟩ : ∃ R, Kx.numAt (nb s) i = R := ⟨_, rfl⟩
  rw [hR]
  unfold Kx.numAt at hR
  have hpl : Kx.pre Kx.bar (nb s) i = true → i + 2 ≤ s.size := fun h => by have := (Kx.pre_le h).resolve_right (by decide); rw [nb_length] at this; exact this
  have hst : Kx.start (nb s) i = if Kx.pre Kx.bar (nb s) i then i + 2 else i := rfl
  have hb1 := hr1
  have hm0 := Kx.span_le Kx.dig (nb r)
  rw [nb_length] at hm0
  obtain ⟨m, hm⟩ : ∃ m, Kx.span Kx.dig (nb r) = m := ⟨_, rfl⟩
  have hall := Kx.span_all Kx.dig (nb r)
  simp only at hR
  rw [← hr1, hm] at hR
  rw [hm] at hm0 hall
  have HDIG := Lib.hid (fun x hx => (Kx.dig_iff x).1 (hall x hx))
  have HM := Lib.hid hm
  have HMR := Lib.hid hm0
  have HG := Lib.hid hg
  have HC := Lib.hid hcut
  rw [hst] at hR hr2
  generalize hp : Kx.pre Kx.bar (nb s) i = p at *
  clear hcut hg hall hm hb1 hr1 hst hp
  cases p with
  | true =>
    have hpl2 := hpl rfl
    simp only [if_true] at hR hr2
    obtain ⟨J, hJ⟩ : ∃ J, i + 2 = J := ⟨_, rfl⟩
    rw [hJ] at hR hr2
    obtain ⟨K, hK⟩ : ∃ K, J + m = K := ⟨_, rfl⟩
    rw [hK] at hR
    have hJK : (J : Int) + (m : Int) = (K : Int) := by omega
    have hiJ : (i : Int) + 2 = (J : Int) := by omega
    have hJs : J ≤ 100000 := by omega
    have hKs : K ≤ 100000 := by omega
    have HRR := Lib.hid hR
    clear hR hpl
    go_enter Try.func35, Try.ntmps35
    go_wp2
    go_quiet ((go_at_call 33; exact Calls.quiet_of_same (HC.out _)))
    have hm1 := moves_set (moves_drewN (moves_refl HG.out) nq) J
    go_wp2
    generalize (w.drewN nq).setCell ⟨g, 1, none⟩ (.int .i64 ((J : Nat) : Int)) = w2 at hm1 ⊢
    have HM2 := Lib.hid hm1
    clear hm1 c0 c1 cf hiJ hJ hK
    go_loop [6, 7, 8] (fun n ov i => ∃ q : Nat, q ≤ m ∧ i = .int .i64 q ∧ DigTo ((nb r).take q) n ov) (fun _ _ i => m - (intOf i).toNat)
    case atStart => exact ⟨0, Nat.zero_le _, rfl, rfl, 0, rfl, by omega, by omega, fun _ => rfl⟩
    case round =>
      obtain ⟨q, hq, rfl, rfl, n, rfl, hv0, hv1, hv2⟩ := hrel
      have hvn : 0 ≤ Kx.val ((nb r).take q) := Kx.val_nonneg _ (fun x hx => (HDIG.out x (mem_take_le hq hx)).1)
      by_cases hlt : q < m
      · have hqr : q < r.size := by have := HMR.out; omega
        have hdq : decide (q < r.size) = true := decide_eq_true hqr
        obtain ⟨b, hb⟩ : ∃ b, r[q] = b := ⟨_, rfl⟩
        have hbx := byte_gt r q hqr
        rw [hb] at hbx
        have hgd : Kx.gt (nb r) q = (nb r).getD q 0 := rfl
        have hdg : Kx.dig (b.toNat : Int) = true := by rw [hbx, hgd]; exact Kx.span_lt Kx.dig (nb r) q (by rw [HM.out]; exact hlt)
        obtain ⟨hx0, hx1⟩ := (Kx.dig_iff _).1 hdg
        have hval : Kx.val ((nb r).take (q + 1)) = Kx.val ((nb r).take q) * 10 + ((b.toNat : Int) - 48) := by
          rw [take_snoc (by rw [nb_length]; exact hqr), Kx.val_snoc, hbx]
        have HVAL := Lib.hid hval
        have HDG := Lib.hid (dig_is hdg)
        clear hval hbx hdg hgd
        generalize hV : Kx.val ((nb r).take q) = V at hv2 hvn HVAL ⊢
        clear hV
        go_wp2_with fail
        refine (HDG.out _).mono ?_
        rintro e w3 ⟨rfl, rfl⟩
        clear HDG
        by_cases hok : 9223372036854775808 < V
        · have hovd : decide (9223372036854775808 < V) = true := decide_eq_true hok
          clear hv2
          go_wp2
          go_round
          case rel =>
            refine ⟨q + 1, by omega, by go_num, ?_, _, rfl, ?_, ?_, fun h => ?_⟩
            · rw [HVAL.out]; exact congrArg Value.bool (decide_eq_true (by omega)).symm
            · rw [IntKind.wrap_u64]; omega
            · rw [IntKind.wrap_u64]; omega
            · rw [HVAL.out] at h; omega
          case measure => simp [intOf]; omega
        · have hovd : decide (9223372036854775808 < V) = false := decide_eq_false hok
          obtain rfl : n = V := hv2 (by omega)
          clear hv2
          by_cases hfit : n ≤ (9223372036854775808 - ((b.toNat : Int) - 48)) / 10
          · have hfd : decide ((9223372036854775808 - ((b.toNat : Int) - 48)) / 10 < n) = false := decide_eq_false (by omega)
            go_wp2
            go_round
            case rel =>
              refine ⟨q + 1, by omega, by go_num, ?_, _, rfl, by omega, by omega, fun _ => ?_⟩
              · rw [HVAL.out]; exact congrArg Value.bool (decide_eq_false (by omega)).symm
              · rw [HVAL.out]
            case measure => simp [intOf]; omega
          · go_wp2
            go_round
            case rel =>
              refine ⟨q + 1, by omega, by go_num, ?_, _, rfl, ?_, ?_, fun h => ?_⟩
              · rw [HVAL.out]; exact congrArg Value.bool (decide_eq_true (by omega)).symm
              · rw [IntKind.wrap_u64]; omega
              · rw [IntKind.wrap_u64]; omega
              · rw [HVAL.out] at h; omega
            case measure => simp [intOf]; omega
      · obtain rfl : m = q := by omega
        have e1 := blk_cell HM2.out.2 1
        have ef := blk_frozen HM2.out.2 1
        generalize hV : Kx.val ((nb r).take m) = V at *
        have hRR := HRR.out
        subst hRR
        by_cases hmr : m < r.size
        · have hdq : decide (m < r.size) = true := decide_eq_true hmr
          obtain ⟨b, hb⟩ : ∃ b, r[m] = b := ⟨_, rfl⟩
          have hbx := byte_gt r m hmr
          rw [hb] at hbx
          have hdg : Kx.dig (b.toNat : Int) = false := by
            have := Kx.span_end Kx.dig (nb r) (by rw [HM.out, nb_length]; exact hmr)
            rw [HM.out] at this
            rw [hbx]
            exact this
          have HDG := Lib.hid (dig_is hdg)
          clear hbx hdg
          have hm3 := moves_set HM2.out K
          have HM3 := Lib.hid hm3
          clear hm3
          go_wp2_with fail
          refine (HDG.out _).mono ?_
          rintro e w3 ⟨rfl, rfl⟩
          by_cases hov : 9223372036854775808 < V
          · have hovd : decide (9223372036854775808 < V) = true := decide_eq_true hov
            go_wp2_with fail
            refine (fail_any g s v K fp 2 (i : Int) _ HM3.out.2).mono ?_
            rintro e w4 ⟨rfl, hm4⟩
            have HM4 := Lib.hid (moves_step HM3.out hm4)
            clear hm4
            go_wp2
            refine bodyPost_ret (v := .int .i64 0) (by simp [results, Try.results35, go_sem]) rfl ?_
            refine ⟨_, rfl, ?_⟩
            rw [if_neg (by rw [decide_eq_false (by omega)]; exact Bool.false_ne_true)]
            exact HM4.out
          · have hovd : decide (9223372036854775808 < V) = false := decide_eq_false hov
            obtain rfl : n = V := hv2 (by omega)
            go_wp2
            refine bodyPost_ret (v := .int .i64 (wrap64 (IntKind.u64.wrap (-n)))) (by simp [results, Try.results35, go_sem]) rfl ?_
            refine ⟨_, rfl, ?_⟩
            first | rw [if_pos rfl] | rw [if_pos (decide_eq_true (by omega))]
            refine ⟨?_, HM3.out⟩
            rw [IntKind.wrap_u64]
            unfold wrap64
            show _ = -n
            omega
        · have hdq : decide (m < r.size) = false := decide_eq_false hmr
          have hm3 := moves_set HM2.out K
          have HM3 := Lib.hid hm3
          clear hm3
          by_cases hov : 9223372036854775808 < V
          · have hovd : decide (9223372036854775808 < V) = true := decide_eq_true hov
            go_wp2_with fail
            refine (fail_any g s v K fp 2 (i : Int) _ HM3.out.2).mono ?_
            rintro e w4 ⟨rfl, hm4⟩
            have HM4 := Lib.hid (moves_step HM3.out hm4)
            clear hm4
            go_wp2
            refine bodyPost_ret (v := .int .i64 0) (by simp [results, Try.results35, go_sem]) rfl ?_
            refine ⟨_, rfl, ?_⟩
            rw [if_neg (by rw [decide_eq_false (by omega)]; exact Bool.false_ne_true)]
            exact HM4.out
          · have hovd : decide (9223372036854775808 < V) = false := decide_eq_false hov
            obtain rfl : n = V := hv2 (by omega)
            go_wp2
            refine bodyPost_ret (v := .int .i64 (wrap64 (IntKind.u64.wrap (-n)))) (by simp [results, Try.results35, go_sem]) rfl ?_
            refine ⟨_, rfl, ?_⟩
            first | rw [if_pos rfl] | rw [if_pos (decide_eq_true (by omega))]
            refine ⟨?_, HM3.out⟩
            rw [IntKind.wrap_u64]
            unfold wrap64
            show _ = -n
            omega
  | false =>
    simp only [Bool.false_eq_true, if_false] at hR hr2
    obtain ⟨K, hK⟩ : ∃ K, i + m = K := ⟨_, rfl⟩
    rw [hK] at hR
    have hJK : (i : Int) + (m : Int) = (K : Int) := by omega
    have hKs : K ≤ 100000 := by omega
    have HRR := Lib.hid hR
    clear hR hpl
    go_enter Try.func35, Try.ntmps35
    go_wp2
    go_quiet ((go_at_call 33; exact Calls.quiet_of_same (HC.out _)))
    have hm1 := moves_drewN (moves_refl HG.out) nq
    go_wp2
    generalize w.drewN nq = w2 at hm1 ⊢
    have HM2 := Lib.hid hm1
    clear hm1 c0 c1 cf hK
    go_loop [6, 7, 8] (fun n ov i => ∃ q : Nat, q ≤ m ∧ i = .int .i64 q ∧ DigTo ((nb r).take q) n ov) (fun _ _ i => m - (intOf i).toNat)
    case atStart => exact ⟨0, Nat.zero_le _, rfl, rfl, 0, rfl, by omega, by omega, fun _ => rfl⟩
    case round =>
      obtain ⟨q, hq, rfl, rfl, n, rfl, hv0, hv1, hv2⟩ := hrel
      have hvn : 0 ≤ Kx.val ((nb r).take q) := Kx.val_nonneg _ (fun x hx => (HDIG.out x (mem_take_le hq hx)).1)
      by_cases hlt : q < m
      · have hqr : q < r.size := by have := HMR.out; omega
        have hdq : decide (q < r.size) = true := decide_eq_true hqr
        obtain ⟨b, hb⟩ : ∃ b, r[q] = b := ⟨_, rfl⟩
        have hbx := byte_gt r q hqr
        rw [hb] at hbx
        have hgd : Kx.gt (nb r) q = (nb r).getD q 0 := rfl
        have hdg : Kx.dig (b.toNat : Int) = true := by rw [hbx, hgd]; exact Kx.span_lt Kx.dig (nb r) q (by rw [HM.out]; exact hlt)
        obtain ⟨hx0, hx1⟩ := (Kx.dig_iff _).1 hdg
        have hval : Kx.val ((nb r).take (q + 1)) = Kx.val ((nb r).take q) * 10 + ((b.toNat : Int) - 48) := by
          rw [take_snoc (by rw [nb_length]; exact hqr), Kx.val_snoc, hbx]
        have HVAL := Lib.hid hval
        have HDG := Lib.hid (dig_is hdg)
        clear hval hbx hdg hgd
        generalize hV : Kx.val ((nb r).take q) = V at hv2 hvn HVAL ⊢
        clear hV
        go_wp2_with fail
        refine (HDG.out _).mono ?_
        rintro e w3 ⟨rfl, rfl⟩
        clear HDG
        by_cases hok : 9223372036854775808 < V
        · have hovd : decide (9223372036854775808 < V) = true := decide_eq_true hok
          clear hv2
          go_wp2
          go_round
          case rel =>
            refine ⟨q + 1, by omega, by go_num, ?_, _, rfl, ?_, ?_, fun h => ?_⟩
            · rw [HVAL.out]; exact congrArg Value.bool (decide_eq_true (by omega)).symm
            · rw [IntKind.wrap_u64]; omega
            · rw [IntKind.wrap_u64]; omega
            · rw [HVAL.out] at h; omega
          case measure => simp [intOf]; omega
        · have hovd : decide (9223372036854775808 < V) = false := decide_eq_false hok
          obtain rfl : n = V := hv2 (by omega)
          clear hv2
          by_cases hfit : n ≤ (9223372036854775808 - ((b.toNat : Int) - 48)) / 10
          · have hfd : decide ((9223372036854775808 - ((b.toNat : Int) - 48)) / 10 < n) = false := decide_eq_false (by omega)
            go_wp2
            go_round
            case rel =>
              refine ⟨q + 1, by omega, by go_num, ?_, _, rfl, by omega, by omega, fun _ => ?_⟩
              · rw [HVAL.out]; exact congrArg Value.bool (decide_eq_false (by omega)).symm
              · rw [HVAL.out]
            case measure => simp [intOf]; omega
          · go_wp2
            go_round
            case rel =>
              refine ⟨q + 1, by omega, by go_num, ?_, _, rfl, ?_, ?_, fun h => ?_⟩
              · rw [HVAL.out]; exact congrArg Value.bool (decide_eq_true (by omega)).symm
              · rw [IntKind.wrap_u64]; omega
              · rw [IntKind.wrap_u64]; omega
              · rw [HVAL.out] at h; omega
            case measure => simp [intOf]; omega
      · obtain rfl : m = q := by omega
        have e1 := blk_cell HM2.out.2 1
        have ef := blk_frozen HM2.out.2 1
        generalize hV : Kx.val ((nb r).take m) = V at *
        have hRR := HRR.out
        subst hRR
        by_cases hmr : m < r.size
        · have hdq : decide (m < r.size) = true := decide_eq_true hmr
          obtain ⟨b, hb⟩ : ∃ b, r[m] = b := ⟨_, rfl⟩
          have hbx := byte_gt r m hmr
          rw [hb] at hbx
          have hdg : Kx.dig (b.toNat : Int) = false := by
            have := Kx.span_end Kx.dig (nb r) (by rw [HM.out, nb_length]; exact hmr)
            rw [HM.out] at this
            rw [hbx]
            exact this
          have HDG := Lib.hid (dig_is hdg)
          clear hbx hdg
          have hm3 := moves_set HM2.out K
          have HM3 := Lib.hid hm3
          clear hm3
          go_wp2_with fail
          refine (HDG.out _).mono ?_
          rintro e w3 ⟨rfl, rfl⟩
          by_cases hov : 9223372036854775808 < V
          · have hovd : decide (9223372036854775808 < V) = true := decide_eq_true hov
            go_wp2_with fail
            refine (fail_any g s v K fp 2 (i : Int) _ HM3.out.2).mono ?_
            rintro e w4 ⟨rfl, hm4⟩
            have HM4 := Lib.hid (moves_step HM3.out hm4)
            clear hm4
            go_wp2
            refine bodyPost_ret (v := .int .i64 0) (by simp [results, Try.results35, go_sem]) rfl ?_
            refine ⟨_, rfl, ?_⟩
            rw [if_neg (by rw [decide_eq_false (by omega)]; exact Bool.false_ne_true)]
            exact HM4.out
          · have hovd : decide (9223372036854775808 < V) = false := decide_eq_false hov
            obtain rfl : n = V := hv2 (by omega)
            by_cases heq : n = 9223372036854775808
            · have heqd : (n == 9223372036854775808) = true := beq_iff_eq.2 heq
              go_wp2_with fail
              refine (fail_any g s v K fp 2 (i : Int) _ HM3.out.2).mono ?_
              rintro e w4 ⟨rfl, hm4⟩
              have HM4 := Lib.hid (moves_step HM3.out hm4)
              clear hm4
              go_wp2
              refine bodyPost_ret (v := .int .i64 0) (by simp [results, Try.results35, go_sem]) rfl ?_
              refine ⟨_, rfl, ?_⟩
              rw [if_neg (by rw [decide_eq_false (by omega)]; exact Bool.false_ne_true)]
              exact HM4.out
            · have heqd : (n == 9223372036854775808) = false := beq_eq_false_iff_ne.2 heq
              go_wp2
              refine bodyPost_ret (v := .int .i64 n) (by simp [results, Try.results35, go_sem]) rfl ?_
              refine ⟨_, rfl, ?_⟩
              first | rw [if_pos rfl] | rw [if_pos (decide_eq_true (by omega))]
              exact ⟨rfl, HM3.out⟩
        · have hdq : decide (m < r.size) = false := decide_eq_false hmr
          have hm3 := moves_set HM2.out K
          have HM3 := Lib.hid hm3
          clear hm3
          by_cases hov : 9223372036854775808 < V
          · have hovd : decide (9223372036854775808 < V) = true := decide_eq_true hov
            go_wp2_with fail
            refine (fail_any g s v K fp 2 (i : Int) _ HM3.out.2).mono ?_
            rintro e w4 ⟨rfl, hm4⟩
            have HM4 := Lib.hid (moves_step HM3.out hm4)
            clear hm4
            go_wp2
            refine bodyPost_ret (v := .int .i64 0) (by simp [results, Try.results35, go_sem]) rfl ?_
            refine ⟨_, rfl, ?_⟩
            rw [if_neg (by rw [decide_eq_false (by omega)]; exact Bool.false_ne_true)]
            exact HM4.out
          · have hovd : decide (9223372036854775808 < V) = false := decide_eq_false hov
            obtain rfl : n = V := hv2 (by omega)
            by_cases heq : n = 9223372036854775808
            · have heqd : (n == 9223372036854775808) = true := beq_iff_eq.2 heq
              go_wp2_with fail
              refine (fail_any g s v K fp 2 (i : Int) _ HM3.out.2).mono ?_
              rintro e w4 ⟨rfl, hm4⟩
              have HM4 := Lib.hid (moves_step HM3.out hm4)
              clear hm4
              go_wp2
              refine bodyPost_ret (v := .int .i64 0) (by simp [results, Try.results35, go_sem]) rfl ?_
              refine ⟨_, rfl, ?_⟩
              rw [if_neg (by rw [decide_eq_false (by omega)]; exact Bool.false_ne_true)]
              exact HM4.out
            · have heqd : (n == 9223372036854775808) = false := beq_eq_false_iff_ne.2 heq
              go_wp2
              refine bodyPost_ret (v := .int .i64 n) (by simp [results, Try.results35, go_sem]) rfl ?_
              refine ⟨_, rfl, ?_⟩
              first | rw [if_pos rfl] | rw [if_pos (decide_eq_true (by omega))]
              exact ⟨rfl, HM3.out⟩
end Go.Proofs.Ytiboikbccmfedaa
