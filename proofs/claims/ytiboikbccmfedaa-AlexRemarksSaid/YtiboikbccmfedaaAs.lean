/- Contract of the reference's Same of words, for words that are the same. Conditions: both read in memory. -/
import Derived.Test.YtiboikbccmfedaaAq
namespace Go.Proofs.Ytiboikbccmfedaa
open Go.RowKit

set_option maxRecDepth 100000 in
set_option maxHeartbeats 4000000 in
theorem sameT_any {A A2 : Option Addr} {ts : List Kx.Tok} (c c2 : Nat) (w : World) (hn : ts.length ≤ 8192) (h1 : ToksIn w A ts) (h2 : ToksIn w A2 ts) :
    Calls Try.prog 8 #[.slice A ts.length c, .slice A2 ts.length c2] w (fun e w' => e = .returned (.bool true) ∧ Below w.heap.size w w') := by
  have H1 := Lib.hid h1
  have H2 := Lib.hid h2
  clear h1 h2
  go_enter Try.func8, Try.ntmps8
  go_wp2
  go_loopw [5] (fun i wr => ∃ k : Nat, k ≤ ts.length ∧ i = .int .i64 k ∧ Below w.heap.size w wr) (fun i _ => ts.length - (intOf i).toNat)
  case atStart => exact ⟨0, Nat.zero_le _, rfl, Below.refl _ _⟩
  case round =>
    obtain ⟨k, hk, rfl, hbel⟩ := hrel
    by_cases hlt : k < ts.length
    · obtain ⟨t, hti⟩ : ∃ t, ts[k]? = some t := ⟨ts[k], List.getElem?_eq_getElem hlt⟩
      obtain ⟨bk, sp, sn, sc, sq, sm, sd, rfl, hl1, hlit1, c0, c1, c2', c3, c4⟩ := (H1.out.below hbel).at hti
      obtain ⟨bq, tp, tn, tc, tq, tm, td, rfl, hl2, hlit2, d0, d1, d2, d3, d4⟩ := (H2.out.below hbel).at hti
      have L1 := Lib.hid hlit1
      have L2 := Lib.hid hlit2
      have HBEL := Lib.hid hbel
      generalize ht1 : strOfNums t.text = x at *
      generalize ht2 : t.kind = tk at *
      generalize ht3 : (t.at_ : Int) = ta at *
      clear hlit1 hlit2 hti ht1 ht2 ht3
      have E0 := Lib.hid (show ∀ w', Below wr.heap.size wr w' → w'.cell? ⟨bk, k * 5, none⟩ = some (.int .i64 tk) ∧ w'.cell? ⟨bk, k * 5 + 1, none⟩ = some (.string x) ∧ w'.cell? ⟨bk, k * 5 + 2, none⟩ = some (.slice sp sn sc) ∧ w'.cell? ⟨bk, k * 5 + 3, none⟩ = some (.slice sq sm sd) ∧ w'.cell? ⟨bk, k * 5 + 4, none⟩ = some (.int .i64 ta) ∧ w'.cell? ⟨bq, k * 5, none⟩ = some (.int .i64 tk) ∧ w'.cell? ⟨bq, k * 5 + 1, none⟩ = some (.string x) ∧ w'.cell? ⟨bq, k * 5 + 2, none⟩ = some (.slice tp tn tc) ∧ w'.cell? ⟨bq, k * 5 + 3, none⟩ = some (.slice tq tm td) ∧ w'.cell? ⟨bq, k * 5 + 4, none⟩ = some (.int .i64 ta) from
        fun w' h => ⟨cell_below h c0, cell_below h c1, cell_below h c2', cell_below h c3, cell_below h c4, cell_below h d0, cell_below h d1, cell_below h d2, cell_below h d3, cell_below h d4⟩)
      have hk0 : (0 : Int) ≤ (k : Int) := Int.natCast_nonneg _
      have hk1 : (k : Int) < (ts.length : Int) := by omega
      have hx : (x.toList == x.toList) = true := beq_self_eq_true _
      go_wp2
      go_region_held3 (fun w' => w'.cell? ⟨bk, k * 5, none⟩ = some (.int .i64 tk) ∧ w'.cell? ⟨bk, k * 5 + 1, none⟩ = some (.string x) ∧ w'.cell? ⟨bk, k * 5 + 2, none⟩ = some (.slice sp sn sc) ∧ w'.cell? ⟨bk, k * 5 + 3, none⟩ = some (.slice sq sm sd) ∧ w'.cell? ⟨bk, k * 5 + 4, none⟩ = some (.int .i64 ta) ∧ w'.cell? ⟨bq, k * 5, none⟩ = some (.int .i64 tk) ∧ w'.cell? ⟨bq, k * 5 + 1, none⟩ = some (.string x) ∧ w'.cell? ⟨bq, k * 5 + 2, none⟩ = some (.slice tp tn tc) ∧ w'.cell? ⟨bq, k * 5 + 3, none⟩ = some (.slice tq tm td) ∧ w'.cell? ⟨bq, k * 5 + 4, none⟩ = some (.int .i64 ta))
        (first | go_keep | exact E0.out _ H6.out | exact E0.out _ (Below.refl _ _).drew)
        (first
          | (go_at_call 11; (with_reducible refine (same_same _ (L1.out.below (Below.refl _ _).drew) (L2.out.below (Below.refl _ _).drew)).mono ?_); rintro e w6 ⟨rfl, hb6⟩; have H6 := Lib.hid (below_then (Below.refl _ wr).drew (Nat.le_refl _) hb6); clear hb6))
      all_goals
        have H7 := Lib.hid (below_then HBEL.out HBEL.out.size H6.out)
        go_wp2
        go_roundw
        case rel => exact ⟨k + 1, by omega, by go_num, H7.out⟩
        case measure => simp [intOf]; omega
    · obtain rfl : ts.length = k := by omega
      go_wp2
      refine bodyPost_ret (v := .bool true) (by simp [results, Try.results8, go_sem]) rfl ?_
      exact ⟨rfl, hbel⟩
end Go.Proofs.Ytiboikbccmfedaa
