/- The law of remarks, walked: for every two texts it returns true. Conditions: the texts' lengths; the library's variable holds an int. -/
import Derived.Test.YtiboikbccmfedaaAs
import Derived.Test.YtiboikbccmfedaaModel4
import Derived.Laws.Concat
namespace Go.Proofs.Ytiboikbccmfedaa
open Go.RowKit

theorem nb_append (s t : ByteArray) : nb (s ++ t) = nb s ++ nb t := by
  unfold nb
  rw [ByteArray.data_append, Array.toList_append, List.map_append]
theorem nb_remark (s p : ByteArray) : nb (s ++ ⟨#[226, 141, 157]⟩ ++ p) = nb s ++ Kx.rem (nb p) := by
  rw [nb_append, nb_append, List.append_assoc]
  rfl

set_option maxRecDepth 100000 in
set_option maxHeartbeats 4000000 in
theorem remarks_any (s p : ByteArray) (hs : s.size ≤ 140737488351232) (hp : p.size ≤ 140737488351232) (w : World) (hgb : Glob w) : Calls Try.prog 4 #[.string s, .string p] w (fun e w' => e = .returned (.bool true) ∧ Below w.heap.size w w') := by
  have HGB := Lib.hid hgb
  clear hgb
  by_cases hbig : 3000 < s.size ∨ 3000 < p.size
  · rcases Nat.lt_or_ge 3000 s.size with hb | hb
    · have hd : decide (3000 < s.size) = true := decide_eq_true hb
      have hd' : decide ((3000 : Int) < (s.size : Int)) = true := decide_eq_true (by omega)
      go_enter Try.func4, Try.ntmps4
      go_wp2_with fail
      refine (works_any _ HGB.out).mono ?_
      rintro e w2 ⟨rfl, hb2⟩
      have HB2 := Lib.hid hb2
      clear hb2
      go_wp2
      refine bodyPost_ret (v := .bool true) (by simp [results, Try.results4, go_sem]) rfl ?_
      exact ⟨rfl, HB2.out⟩
    · have hb' : 3000 < p.size := by omega
      have hd : decide (3000 < s.size) = false := decide_eq_false (by omega)
      have hd' : decide ((3000 : Int) < (s.size : Int)) = false := decide_eq_false (by omega)
      have hd2 : decide (3000 < p.size) = true := decide_eq_true hb'
      have hd2' : decide ((3000 : Int) < (p.size : Int)) = true := decide_eq_true (by omega)
      go_enter Try.func4, Try.ntmps4
      go_wp2_with fail
      refine (works_any _ HGB.out).mono ?_
      rintro e w2 ⟨rfl, hb2⟩
      have HB2 := Lib.hid hb2
      clear hb2
      go_wp2
      refine bodyPost_ret (v := .bool true) (by simp [results, Try.results4, go_sem]) rfl ?_
      exact ⟨rfl, HB2.out⟩
  · have hb1 : s.size ≤ 3000 := by omega
    have hb2 : p.size ≤ 3000 := by omega
    have hd : decide (3000 < s.size) = false := decide_eq_false (by omega)
    have hd' : decide ((3000 : Int) < (s.size : Int)) = false := decide_eq_false (by omega)
    have hd2 : decide (3000 < p.size) = false := decide_eq_false (by omega)
    have hd2' : decide ((3000 : Int) < (p.size : Int)) = false := decide_eq_false (by omega)
    have h3 : (⟨#[226, 141, 157]⟩ : ByteArray).size = 3 := rfl
    have hq1 : ∀ W, (Op.stringOp .add s ⟨#[226, 141, 157]⟩).run Try.prog W = .ok (.string (s ++ ⟨#[226, 141, 157]⟩)) W := fun W => run_string_add_sum W _ _ (by rw [h3]; omega)
    have hq2 : ∀ W, (Op.stringOp .add (s ++ ⟨#[226, 141, 157]⟩) p).run Try.prog W = .ok (.string (s ++ ⟨#[226, 141, 157]⟩ ++ p)) W := fun W => run_string_add_sum W _ _ (by rw [ByteArray.size_append, h3]; omega)
    obtain ⟨R, hR⟩ : ∃ R, Kx.lex (nb s) = R := ⟨_, rfl⟩
    have HR := Lib.hid hR
    clear hR hbig h3
    cases R with
    | bad er j =>
      have hbd := Kx.lex_bad_le (nb_bytes s) HR.out
      have be : (er == 0) = false := beq_eq_false_iff_ne.2 hbd.2
      go_enter Try.func4, Try.ntmps4
      go_wp2_with fail
      refine (lex_bad HR.out _ HGB.out).mono ?_
      rintro e w1 ⟨rfl, hb1⟩
      have HB1 := Lib.hid hb1
      clear hb1 hbd
      go_wp2_with fail
      refine (works_any _ (HGB.out.below (HB1.out.alloc HB1.out.size (Obj.cells #[Value.int IntKind.i64 er, Value.int IntKind.i64 (j : Int), Value.int IntKind.i64 0] 25)))).mono ?_
      rintro e w2 ⟨rfl, hb2⟩
      have hb3 := (HB1.out.alloc HB1.out.size (Obj.cells #[Value.int IntKind.i64 er, Value.int IntKind.i64 (j : Int), Value.int IntKind.i64 0] 25))
      have hb4 := below_then hb3 hb3.size hb2
      have HB4 := Lib.hid hb4
      clear hb2 hb3 hb4
      go_wp2
      refine bodyPost_ret (v := .bool true) (by simp [results, Try.results4, go_sem]) rfl ?_
      exact ⟨rfl, HB4.out⟩
    | good ts =>
      have r2 := Kx.lex_remark (nb_bytes p) (nb_bytes s) (by simp only [Kx.rem, List.length_append, List.length_cons, nb_length]; omega) HR.out
      rw [← nb_remark] at r2
      have R2 := Lib.hid r2
      clear r2
      go_enter Try.func4, Try.ntmps4
      go_wp2_with fail
      refine (lex_good HR.out _ HGB.out).mono ?_
      rintro e w2 ⟨A, c, rfl, ht2, hn2, hc2, hb2⟩
      have T2 := Lib.hid ht2
      have HB2 := Lib.hid hb2
      clear ht2 hb2
      have z1 : Below w2.heap.size w2 (w2.alloc (Obj.cells #[Value.int IntKind.i64 0, Value.int IntKind.i64 0, Value.int IntKind.i64 0] 25)) := (Below.refl _ _).alloc (Nat.le_refl _) _
      have Z1 := Lib.hid z1
      clear z1
      go_wp2_with fail
      refine (lex_good R2.out _ ((HGB.out.below HB2.out).below Z1.out)).mono ?_
      rintro e w3 ⟨A3, c3, rfl, ht3, hn3, hc3, hb3⟩
      have z2 := below_then Z1.out Z1.out.size hb3
      have f0 := blk_cell (blk_below (blk_new w2 (Obj.cells #[Value.int IntKind.i64 0, Value.int IntKind.i64 0, Value.int IntKind.i64 0] 25)) hb3 (by simp)) 0
      have f0l : w2.heap.size < w3.heap.size := by have := hb3.size; simp at this; omega
      have T3 := Lib.hid ht3
      have T23 := Lib.hid (T2.out.below z2)
      have HB3 := Lib.hid (below_then HB2.out HB2.out.size z2)
      clear ht3 hb3 z2 HB2 T2 Z1
      generalize w2.heap.size = g2 at *
      go_wp2_with fail
      have z3 : Below w3.heap.size w3 (w3.alloc (Obj.cells #[Value.int IntKind.i64 0, Value.int IntKind.i64 0, Value.int IntKind.i64 0] 25)) := (Below.refl _ _).alloc (Nat.le_refl _) _
      refine (sameT_any _ _ _ hn2 (T23.out.below z3) (T3.out.below z3)).mono ?_
      rintro e w4 ⟨rfl, hb4⟩
      have z4 := below_then z3 z3.size hb4
      have HB4 := Lib.hid (below_then HB3.out HB3.out.size z4)
      clear z3 z4 hb4 T23 T3 HB3
      go_wp2_with fail
      refine (works_any _ (HGB.out.below HB4.out)).mono ?_
      rintro e w5 ⟨rfl, hb5⟩
      have HB5 := Lib.hid (below_then HB4.out HB4.out.size hb5)
      clear hb5
      go_wp2
      refine bodyPost_ret (v := .bool true) (by simp [results, Try.results4, go_sem]) rfl ?_
      exact ⟨rfl, HB5.out⟩
end Go.Proofs.Ytiboikbccmfedaa
