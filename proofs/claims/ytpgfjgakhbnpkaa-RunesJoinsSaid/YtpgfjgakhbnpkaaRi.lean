/- The reading of bytes has one outcome; contract of the law's works: it returns true in any memory. Conditions: none. -/
import Derived.Test.YtpgfjgakhbnpkaaRh
import Derived.Lib.SlBytesConst
namespace Go.Proofs.Ytpgfjgakhbnpkaa
open Go.RowKit

theorem noOne_of_one {l : List Int} (hb : Spec.Bytes l) (h : (Spec.one l).2 = 0) : Spec.NoOne l := by
  rcases Spec.one_spec l hb with ⟨_, h2, _⟩ | ⟨_, h2⟩
  · have := (enc_len (Spec.one l).1).1; omega
  · exact h2

/-- in whichever of the two ways the reading ends, the signs that were read stand ahead of what is no sign -/
theorem readIs_split {l xs : List Int} {a e : Int} (h : ReadIs l xs a e) : ∃ ys r, AllGood ys ∧ Spec.NoOne r ∧ l = Spec.encs ys ++ r ∧ ((r = [] ∧ e = 0 ∧ a = 0 ∧ xs = ys) ∨ (r ≠ [] ∧ e = 3 ∧ a = ((Spec.encs ys).length : Int) ∧ xs = [])) := by
  rcases h with ⟨rfl, rfl, hg, hl⟩ | ⟨rfl, rfl, ys, p, rfl, hp, hg, ht, hn⟩
  · exact ⟨xs, [], hg, Spec.noOne_nil, by simpa using hl, .inl ⟨rfl, rfl, rfl, rfl⟩⟩
  · refine ⟨ys, l.drop p, hg, hn, by rw [← ht, List.take_append_drop], .inr ⟨?_, rfl, ?_, rfl⟩⟩
    · intro h
      have := congrArg List.length h
      rw [List.length_drop, List.length_nil] at this
      omega
    · rw [← ht, List.length_take]; omega

theorem readIs_unique {l xs xs' : List Int} {a a' e e' : Int} (h : ReadIs l xs a e) (h' : ReadIs l xs' a' e') : xs = xs' ∧ a = a' ∧ e = e' := by
  obtain ⟨ys, r, g1, n1, e1, o1⟩ := readIs_split h
  obtain ⟨ys', r', g2, n2, e2, o2⟩ := readIs_split h'
  obtain ⟨rfl, rfl⟩ := Spec.read_unique ys ys' r r' g1 g2 n1 n2 (e1.symm.trans e2)
  rcases o1 with ⟨h1, rfl, rfl, rfl⟩ | ⟨h1, rfl, rfl, rfl⟩ <;> rcases o2 with ⟨h2, rfl, rfl, rfl⟩ | ⟨h2, rfl, rfl, rfl⟩
  · exact ⟨rfl, rfl, rfl⟩
  · exact absurd h1 h2
  · exact absurd h2 h1
  · exact ⟨rfl, rfl, rfl⟩

theorem works_read : ReadIs [97, 255] [] 1 3 := by
  refine .inr ⟨rfl, rfl, [97], 1, rfl, by decide, by decide, by decide, noOne_of_one (by intro x hx; simp at hx; omega) (by decide)⟩

theorem few_len (l : List Int) : Few l l.length := by
  intro ys r _ h
  have h1 : ∀ zs : List Int, zs.length ≤ (Spec.encs zs).length := by
    intro zs
    induction zs with
    | nil => simp
    | cons z t ih => have := (enc_len z).1; simp only [Spec.encs, List.flatMap_cons, List.length_append, List.length_cons] at *; omega
  have := h1 ys
  rw [h, List.length_append]
  omega

def Works (w : World) (e : Ending) (w' : World) : Prop := e = .returned (.bool true) ∧ Below w.heap.size w w'

/-- a row that was just laid -/
theorem row_new (k : IntKind) (t : TypeId) (W : World) (l : List Int) (h : l.length ≤ 9223372036854775807) (fr : Nat × Nat) : RowAt k (W.alloc (.cells (nums k l).toArray t fr)) (some ⟨W.heap.size, 0, none⟩) l := by
  refine ⟨h, fun _ => ⟨W.heap.size, 0, rfl, fun i hi => ?_⟩⟩
  rw [Nat.zero_add, blk_cell (blk_new W _)]
  simpa using nums_get k l i hi

set_option maxRecDepth 100000 in
set_option maxHeartbeats 4000000 in
theorem works_any (w : World) : Calls Try.prog 12 #[] w (Works w) := by
  have kc := fun (w : World) (C : Array Value) (n c : Nat) => Lib.run_convert_bytes_const (P := Try.prog) w 23 5 C n c Try.underlying23 Try.underlying5
  go_enter Try.func12, Try.ntmps12
  go_wp2_with fail
  have hb0 := Lib.hid ((Below.refl w.heap.size w).alloc (Nat.le_refl _) (Obj.cells #[Value.int .i64 97, Value.int .i64 9075] 2))
  refine (write_any _ 2 2 [97, 9075] _ (row_new .i64 2 w [97, 9075] (by decide) (0, 0)) rfl (by omega)).mono ?_
  rintro e w1 ⟨v1, rfl, ho1, hb1⟩
  have hw1 : (writeOut [97, 9075]) = ([97, 226, 141, 179], 0) := by decide
  rw [hw1] at ho1 ⊢
  obtain ⟨A1, c1, rfl, _⟩ := own_slice ho1
  have HO1 := Lib.hid ho1
  have HB1 := Lib.hid (below_then hb0.out hb0.out.size hb1)
  clear ho1 hb1 hw1
  go_wp2_with fail
  have hb2 := Lib.hid (HB1.out.alloc HB1.out.size (Obj.cells #[Value.int .u8 97, Value.int .u8 255] 5 (2, 3)))
  have HO2 := Lib.hid (HO1.out.alloc (Obj.cells #[Value.int .u8 97, Value.int .u8 255] 5 (2, 3)))
  refine (read_any _ 2 2 [97, 255] _ 2 (row_new .u8 5 w1 [97, 255] (by decide) (2, 3)) rfl (by omega) (by intro x hx; simp at hx; omega) (few_len _) (by omega)).mono ?_
  rintro e w3 ⟨v3, xs, a3, e3, rfl, hrd, ho3, hb3⟩
  obtain ⟨rfl, rfl, rfl⟩ := readIs_unique hrd works_read
  obtain ⟨A3, c3, rfl, _⟩ := own_slice ho3
  have HO3 := Lib.hid (own_below HO2.out hb3)
  have HB3 := Lib.hid (below_then hb2.out hb2.out.size hb3)
  clear ho3 hb3 hrd
  go_wp2_with fail
  have hb4 := Lib.hid (HB3.out.alloc HB3.out.size (Obj.cells #[Value.int .u8 226, Value.int .u8 141, Value.int .u8 179, Value.int .u8 98] 5 (4, 5)))
  have HO4 := Lib.hid (HO3.out.alloc (Obj.cells #[Value.int .u8 226, Value.int .u8 141, Value.int .u8 179, Value.int .u8 98] 5 (4, 5)))
  refine (one_any _ 4 4 [226, 141, 179, 98] _ (row_new .u8 5 w3 [226, 141, 179, 98] (by decide) (4, 5)) rfl (by omega) (by intro x hx; simp at hx; omega)).mono ?_
  rintro e w5 ⟨rfl, hb5⟩
  rw [show Spec.one [226, 141, 179, 98] = (9075, 3) by decide]
  have HO5 := Lib.hid (own_below HO4.out hb5)
  have HB5 := Lib.hid (below_then hb4.out hb4.out.size hb5)
  clear hb5 kc
  obtain ⟨g, cap, hv, hlt, _⟩ := own_form_pos HO5.out (by decide)
  cases hv
  have hcv := conv_own (P := Try.prog) (src := 23) (dst := 9) Try.underlying23 Try.underlying5 Try.underlying9 HO5.out (by decide)
  have hcv' : (convert 23 9 (.slice (some ⟨g, 0, none⟩) 4 c1)).run Try.prog w5 = .ok (.string ⟨#[97, 226, 141, 179]⟩) w5 := hcv
  clear hcv
  go_wp2
  go_ret
  exact ⟨rfl, HB5.out⟩
end Go.Proofs.Ytpgfjgakhbnpkaa
