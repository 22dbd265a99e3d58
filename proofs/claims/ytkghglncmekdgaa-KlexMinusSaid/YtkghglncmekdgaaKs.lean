/- The law of blanks, walked: for every text and number it returns true. Conditions: none but the text's length and the number's range. -/
import Derived.Test.YtkghglncmekdgaaKr
import Derived.Test.YtkghglncmekdgaaModel5
import Derived.Test.YtkghglncmekdgaaKq
import Derived.Laws.Concat
namespace Go.Proofs.Ytkghglncmekdgaa
open Go.RowKit

theorem nb_append (s t : ByteArray) : nb (s ++ t) = nb s ++ nb t := by
  unfold nb
  rw [ByteArray.data_append, Array.toList_append, List.map_append]
theorem strOfNums_append (a b : List Int) : strOfNums a ++ strOfNums b = strOfNums (a ++ b) := by
  apply ByteArray.ext
  apply Array.toList_inj.1
  rw [ByteArray.data_append, Array.toList_append, strOfNums_data, strOfNums_data, strOfNums_data, List.map_append]
theorem more_next (k : Nat) : strOfNums (Kx.bl k) ++ ⟨#[32]⟩ = strOfNums (Kx.bl (k + 1)) := by
  rw [show (⟨#[32]⟩ : ByteArray) = strOfNums [32] from rfl, strOfNums_append]
  congr 1
  unfold Kx.bl
  rw [List.replicate_succ']
theorem lex_some (s : ByteArray) (w : World) : Calls Try.prog 8 #[.string s] w (fun e w' => ∃ A n c er at_, e = .returned (.tuple #[.slice A n c, .agg #[.int .i64 er, .int .i64 at_, .int .i64 0]]) ∧ Below w.heap.size w w') := by
  refine (lex_any s w).mono ?_
  cases Kx.lex (nb s) with
  | bad er j =>
    rintro e w' ⟨rfl, h⟩
    exact ⟨_, _, _, _, _, rfl, h⟩
  | good ts =>
    rintro e w' ⟨A, c, vs, rfl, _, _, _, _, h⟩
    exact ⟨_, _, _, _, _, rfl, h⟩

set_option maxRecDepth 100000 in
set_option maxHeartbeats 4000000 in
theorem blanks_any (s : ByteArray) (a1 : Int) (hs : s.size ≤ 140737488351232) (w1 : (Lit.int .u8 a1).wf = true) (w : World) : Calls Try.prog 3 #[.string s, .int .u8 a1] w (fun e w' => e = .returned (.bool true) ∧ Below w.heap.size w w') := by
  have hr := bounds_u8 w1
  obtain ⟨n, rfl⟩ : ∃ n : Nat, a1 = (n : Int) := ⟨a1.toNat, by omega⟩
  have hn255 : n ≤ 255 := by omega
  clear w1 hr
  by_cases hbig : 4000 < s.size
  · have hd : decide (4000 < s.size) = true := decide_eq_true hbig
    go_enter Try.func3, Try.ntmps3
    go_wp2_with fail
    refine (works_any _).mono ?_
    rintro e w2 ⟨rfl, hb2⟩
    have HB2 := Lib.hid hb2
    clear hb2
    go_wp2
    refine bodyPost_ret (v := .bool true) (by simp [results, Try.results3, go_sem]) rfl ?_
    exact ⟨rfl, HB2.out⟩
  · have hd : decide (4000 < s.size) = false := decide_eq_false hbig
    obtain ⟨R, hR⟩ : ∃ R, Kx.lex (nb s) = R := ⟨_, rfl⟩
    have HR := Lib.hid hR
    clear hR
    go_enter Try.func3, Try.ntmps3
    go_wp2
    go_loop [5, 6] (fun m i => ∃ k : Nat, k ≤ n ∧ i = .int .i64 k ∧ m = .string (strOfNums (Kx.bl k))) (fun _ i => n - (intOf i).toNat)
    case atStart => exact ⟨0, Nat.zero_le _, rfl, rfl⟩
    case round =>
      obtain ⟨k, hk, rfl, rfl⟩ := hrel
      by_cases hlt : k < n
      · have hsz := strOfNums_size (Kx.bl k)
        rw [Kx.bl_length] at hsz
        have hq : ∀ W, (Op.stringOp .add (strOfNums (Kx.bl k)) ⟨#[32]⟩).run Try.prog W = .ok (.string (strOfNums (Kx.bl (k + 1)))) W := fun W => by
          rw [run_string_add_sum W _ _ (by rw [hsz, show (⟨#[32]⟩ : ByteArray).size = 1 from rfl]; omega), more_next]
        clear hsz
        go_wp2
        go_round
        case rel => exact ⟨k + 1, by omega, by go_num, rfl⟩
        case measure => simp [intOf]; omega
      · obtain rfl : n = k := by omega
        have e1 : nb (s ++ strOfNums (Kx.bl n)) = nb s ++ Kx.bl n := by rw [nb_append, nb_str _ (Kx.bl_bytes n)]
        have e2 : nb (strOfNums (Kx.bl n) ++ s) = Kx.bl n ++ nb s := by rw [nb_append, nb_str _ (Kx.bl_bytes n)]
        have hsz := strOfNums_size (Kx.bl n)
        rw [Kx.bl_length] at hsz
        have hq1 : ∀ W, (Op.stringOp .add s (strOfNums (Kx.bl n))).run Try.prog W = .ok (.string (s ++ strOfNums (Kx.bl n))) W := fun W => run_string_add_sum W _ _ (by rw [hsz]; omega)
        have hq2 : ∀ W, (Op.stringOp .add (strOfNums (Kx.bl n)) s).run Try.prog W = .ok (.string (strOfNums (Kx.bl n) ++ s)) W := fun W => run_string_add_sum W _ _ (by rw [hsz]; omega)
        clear hsz
        have E1 := Lib.hid e1
        have E2 := Lib.hid e2
        clear e1 e2
        cases R with
        | bad er j =>
          have hbd := Kx.lex_bad_le (nb_bytes s) HR.out
          have be : (er == 0) = false := beq_eq_false_iff_ne.2 hbd.2
          go_wp2_with fail
          refine (lex_bad HR.out _).mono ?_
          rintro e w2 ⟨rfl, hb2⟩
          have HB2 := Lib.hid hb2
          clear hb2 hbd
          go_wp2_with fail
          refine (lex_some _ _).mono ?_
          rintro e w3 ⟨A3, n3, c3, er3, at3, rfl, hb3⟩
          have f0 := blk_cell (blk_below (blk_new w2 (Obj.cells #[Value.int IntKind.i64 er, Value.int IntKind.i64 (j : Int), Value.int IntKind.i64 0] 26)) hb3 (by simp)) 0
          have f0l : w2.heap.size < w3.heap.size := by have := hb3.size; simp at this; omega
          have HB3 := Lib.hid (below_then ((HB2.out.alloc HB2.out.size _)) (by have := HB2.out.size; simp; omega) hb3)
          clear hb3 HB2
          generalize w2.heap.size = g2 at *
          go_wp2_with fail
          refine (works_any _).mono ?_
          rintro e w4 ⟨rfl, hb4⟩
          have HB4 := Lib.hid (below_then (HB3.out.alloc HB3.out.size (Obj.cells #[Value.int IntKind.i64 er3, Value.int IntKind.i64 at3, Value.int IntKind.i64 0] 26)) (by have := HB3.out.size; simp; omega) hb4)
          clear hb4
          go_wp2
          refine bodyPost_ret (v := .bool true) (by simp [results, Try.results3, go_sem]) rfl ?_
          exact ⟨rfl, HB4.out⟩
        | good ts =>
          have r2 := Kx.lex_after n (nb_bytes s) (by rw [List.length_append, nb_length, Kx.bl_length]; omega) HR.out
          rw [← E1.out] at r2
          have r3 := Kx.lex_ahead n (by rw [List.length_append, nb_length, Kx.bl_length]; omega) HR.out
          rw [← E2.out] at r3
          have R2 := Lib.hid r2
          have R3 := Lib.hid r3
          clear r2 r3
          go_wp2_with fail
          refine (lex_good HR.out _).mono ?_
          rintro e w2 ⟨A, c, rfl, ht2, hn2, hc2, hb2⟩
          have T2 := Lib.hid ht2
          have HB2 := Lib.hid hb2
          clear ht2 hb2
          go_wp2_with fail
          refine (lex_good R2.out _).mono ?_
          rintro e w3 ⟨A3, c3, rfl, ht3, hn3, hc3, hb3⟩
          have z1 : Below w2.heap.size w2 (w2.alloc (Obj.cells #[Value.int IntKind.i64 0, Value.int IntKind.i64 0, Value.int IntKind.i64 0] 26)) := (Below.refl _ _).alloc (Nat.le_refl _) _
          have z2 := below_then z1 z1.size hb3
          have f0 := blk_cell (blk_below (blk_new w2 (Obj.cells #[Value.int IntKind.i64 0, Value.int IntKind.i64 0, Value.int IntKind.i64 0] 26)) hb3 (by simp)) 0
          have f0l : w2.heap.size < w3.heap.size := by have := hb3.size; simp at this; omega
          have T3 := Lib.hid ht3
          have T23 := Lib.hid (T2.out.below z2)
          have HB3 := Lib.hid (below_then HB2.out HB2.out.size z2)
          clear ht3 hb3 z1 z2 HB2 T2
          generalize w2.heap.size = g2 at *
          go_wp2_with fail
          have z3 : Below w3.heap.size w3 (w3.alloc (Obj.cells #[Value.int IntKind.i64 0, Value.int IntKind.i64 0, Value.int IntKind.i64 0] 26)) := (Below.refl _ _).alloc (Nat.le_refl _) _
          refine (sameT_any _ _ _ hn2 (T23.out.below z3) (T3.out.below z3)).mono ?_
          rintro e w4 ⟨rfl, hb4⟩
          have z4 := below_then z3 z3.size hb4
          have T24 := Lib.hid (T23.out.below z4)
          have HB4 := Lib.hid (below_then HB3.out HB3.out.size z4)
          clear z3 z4 hb4 T23 T3 HB3
          go_wp2_with fail
          refine (lex_good R3.out _).mono ?_
          rintro e w5 ⟨A5, c5, rfl, ht5, hn5, hc5, hb5⟩
          have T5 := Lib.hid ht5
          have T25 := Lib.hid (T24.out.below hb5)
          have HB5 := Lib.hid (below_then HB4.out HB4.out.size hb5)
          have hml : (ts.map (Kx.Tok.on n)).length = ts.length := List.length_map _
          rw [hml] at hn5 hc5
          simp only [hml]
          clear ht5 hb5 T24 HB4 hml
          have HO := Lib.hid (Kx.lex_order (nb_bytes s) HR.out)
          go_wp2
          obtain ⟨W, hW⟩ : ∃ W, w5.alloc (Obj.cells #[Value.int IntKind.i64 0, Value.int IntKind.i64 0, Value.int IntKind.i64 0] 26) = W := ⟨_, rfl⟩
          have hbw : Below w5.heap.size w5 W := by rw [← hW]; exact (Below.refl _ _).alloc (Nat.le_refl _) _
          have T5W := Lib.hid (T5.out.below hbw)
          have T2W := Lib.hid (T25.out.below hbw)
          have HBW := Lib.hid (below_then HB5.out HB5.out.size hbw)
          rw [hW]
          clear hW hbw T5 T25 HB5
          go_loopw [13] (fun i wr => ∃ k : Nat, k ≤ ts.length ∧ i = .int .i64 k ∧ Below W.heap.size W wr) (fun i _ => ts.length - (intOf i).toNat)
          case atStart => exact ⟨0, Nat.zero_le _, rfl, Below.refl _ _⟩
          case round =>
            obtain ⟨k, hk, rfl, hbel⟩ := hrel
            by_cases hlt : k < ts.length
            · obtain ⟨t, hti⟩ : ∃ t, ts[k]? = some t := ⟨ts[k], List.getElem?_eq_getElem hlt⟩
              have hti2 : (ts.map (Kx.Tok.on n))[k]? = some (t.on n) := by rw [List.getElem?_map, hti]; rfl
              obtain ⟨bk, sp, sn, sc, sq, sm, sd, rfl, hl1, _, c0, c1, c2', c3', c4⟩ := (T2W.out.below hbel).at hti
              obtain ⟨bq, tp, tn, tc, tq, tm, td, rfl, hl2, _, d0, d1, d2, d3, d4⟩ := (T5W.out.below hbel).at hti2
              have ho := (HO.out.at k hti).1.1
              rw [nb_length] at ho
              simp only [Kx.Tok.on, Int.natCast_add] at d0 d1 d2 d3 d4
              generalize strOfNums t.text = x at *
              generalize t.kind = tk at *
              generalize t.at_ = p at *
              have hwr : IntKind.i64.wrap ((p : Int) + (n : Int)) = (p : Int) + (n : Int) := wraps_i64 _ (by omega) (by omega)
              have hk0 : (0 : Int) ≤ (k : Int) := Int.natCast_nonneg _
              have hk1 : (k : Int) < (ts.length : Int) := by omega
              have HBEL := Lib.hid hbel
              clear hbel hti hti2
              go_wp2
              go_quiet (fail)
              go_wp2
              go_roundw
              case rel => exact ⟨k + 1, by omega, by go_num, below_drewN HBEL.out _⟩
              case measure => simp [intOf]; omega
            · obtain rfl : ts.length = k := by omega
              go_wp2_with fail
              refine (works_any _).mono ?_
              rintro e w6 ⟨rfl, hb6⟩
              have hb7 := below_then HBW.out HBW.out.size hbel
              have HB8 := Lib.hid (below_then hb7 hb7.size hb6)
              clear hb6 hb7
              go_wp2
              refine bodyPost_ret (v := .bool true) (by simp [results, Try.results3, go_sem]) rfl ?_
              exact ⟨rfl, HB8.out⟩
end Go.Proofs.Ytkghglncmekdgaa
