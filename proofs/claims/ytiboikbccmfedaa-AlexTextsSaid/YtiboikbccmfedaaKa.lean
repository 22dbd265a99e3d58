/- Contracts of Good, first and put of the program's runes. Conditions: the numbers are of their kinds, the rows read in memory. -/
import Derived.Test.YtiboikbccmfedaaProg
import Derived.Test.YtiboikbccmfedaaXRow
import Derived.Test.YtiboikbccmfedaaSpec
import Derived.WalkKit
import Derived.ProofKit
import Derived.OpenShut
import Derived.BigQuiet
import Derived.Deep.QuietTactic
import Derived.Deep.LoopGhost
import Derived.Outline
import Derived.WalkSpells
import Derived.ArgAppend
import Derived.Laws.BitsLemmas
namespace Go.Proofs.Ytiboikbccmfedaa
open Go.RowKit

theorem good_any (a : Int) (w : World) : Calls Try.prog 31 #[.int .i64 a] w fun e w' => e = .returned (.bool (Spec.good a)) ∧ w = w' := by
  by_cases h1 : 0 ≤ a <;> by_cases h2 : a ≤ 1114111 <;> by_cases h3 : a < 55296 <;> by_cases h4 : 57343 < a
  all_goals first | (exfalso; omega) | skip
  all_goals
    go_enter Try.func31, Try.ntmps31
    go_wp2
    go_ret
    refine ⟨?_, rfl⟩
    congr 2
    unfold Spec.good
    simp
    try omega



theorem info_u8 : (Try.prog.info? 5).map (fun i => (i.zero, i.size, i.bytes)) = some (some (.int .u8 0), 1, 1) := by kernel_rfl
theorem info_i64 : (Try.prog.info? 2).map (fun i => (i.zero, i.size, i.bytes)) = some (some (.int .i64 0), 1, 8) := by kernel_rfl

theorem wraps_i64 (n : Int) (h₀ : 0 ≤ n) (h₁ : n < 2 ^ 63) : IntKind.i64.wrap n = n := by rw [IntKind.wrap_i64]; omega
theorem and63 (x : Int) (h₀ : 0 ≤ x) (h₁ : x ≤ 9223372036854775807) : bits .and .i64 x 63 = x % 64 := bits_mask .i64 63 (by decide) wraps_i64 6 (by decide) x h₀ (by omega)
theorem or128 (y : Int) (h₀ : 0 ≤ y) (h₁ : y < 64) : bits .or .i64 128 y = 128 + y := bits_join .i64 63 (by decide) wraps_i64 6 128 y (by decide) (by decide) (by decide) h₀ h₁ (by omega)
theorem or192 (y : Int) (h₀ : 0 ≤ y) (h₁ : y < 32) : bits .or .i64 192 y = 192 + y := bits_join .i64 63 (by decide) wraps_i64 5 192 y (by decide) (by decide) (by decide) h₀ h₁ (by omega)
theorem or224 (y : Int) (h₀ : 0 ≤ y) (h₁ : y < 16) : bits .or .i64 224 y = 224 + y := bits_join .i64 63 (by decide) wraps_i64 4 224 y (by decide) (by decide) (by decide) h₀ h₁ (by omega)
theorem or240 (y : Int) (h₀ : 0 ≤ y) (h₁ : y < 8) : bits .or .i64 240 y = 240 + y := bits_join .i64 63 (by decide) wraps_i64 3 240 y (by decide) (by decide) (by decide) h₀ h₁ (by omega)
theorem or6 (x y : Int) (hx₀ : 0 ≤ x) (hx : x % 64 = 0) (hx₁ : x ≤ 9223372036854775807) (h₀ : 0 ≤ y) (h₁ : y < 64) : bits .or .i64 x y = x + y := bits_join .i64 63 (by decide) wraps_i64 6 x y hx₀ hx (by omega) h₀ h₁ (by omega)
theorem and192 (c : Int) (h0 : 0 ≤ c) (h1 : c ≤ 255) : (bits .and .u8 c 192 = 128) ↔ (128 ≤ c ∧ c < 192) := by
  have h : ∀ n : Fin 256, (bits .and .u8 ((n.val : Nat) : Int) 192 = 128) ↔ (128 ≤ ((n.val : Nat) : Int) ∧ ((n.val : Nat) : Int) < 192) := by decide +kernel
  have := h ⟨c.toNat, by omega⟩
  rw [show ((c.toNat : Nat) : Int) = c by omega] at this
  exact this

theorem ret_two {k k' : IntKind} {a a' b b' : Int} (h : a = a') (h' : b = b') : Ending.returned (.tuple #[.int k a, .int k' b]) = .returned (.tuple #[.int k a', .int k' b']) := by rw [h, h']
def first1 (c : Int) : Int := if c < 128 then 1 else if c < 192 ∨ 248 ≤ c then 0 else if c < 224 then 2 else if c < 240 then 3 else 4
def first2 (c : Int) : Int := if c < 128 then c else if c < 192 ∨ 248 ≤ c then 0 else if c < 224 then c - 192 else if c < 240 then c - 224 else c - 240
def FirstTo (c : Int) (w : World) (e : Ending) (w' : World) : Prop := e = .returned (.tuple #[.int .i64 (first1 c), .int .i64 (first2 c)]) ∧ w = w'

theorem first_any (c : Int) (w : World) (h0 : 0 ≤ c) (h1 : c ≤ 255) : Calls Try.prog 30 #[.int .u8 c] w (FirstTo c w) := by
  have a31 := Lib.hid (u8_and31 c h0 (by omega))
  have a15 := Lib.hid (u8_and15 c h0 (by omega))
  have a7 := Lib.hid (u8_and7 c h0 (by omega))
  rcases (by omega : c < 128 ∨ (128 ≤ c ∧ c < 192) ∨ 248 ≤ c ∨ (192 ≤ c ∧ c < 224) ∨ (224 ≤ c ∧ c < 240) ∨ (240 ≤ c ∧ c < 248)) with h | ⟨h, h'⟩ | h | ⟨h, h'⟩ | ⟨h, h'⟩ | ⟨h, h'⟩
  all_goals
    go_enter Try.func30, Try.ntmps30
    go_wp2
    go_ret2
    exact ⟨ret_two (by unfold first1; split <;> (try split) <;> (try split) <;> (try split) <;> omega) (by unfold first2; have := a31.out; have := a15.out; have := a7.out; split <;> (try split) <;> (try split) <;> (try split) <;> omega), rfl⟩

theorem own_base_le {w : World} {base base' : Nat} {e : TypeId} {size n : Nat} {v : Value} {xs : List Value} (h : w.ownsRow base e size v n xs) (hb : base' ≤ base) : w.ownsRow base' e size v n xs := by
  obtain ⟨h1, h2⟩ := h
  refine ⟨h1, ?_⟩
  rcases h2 with h2 | ⟨g, cap, cur, rfl, hg, r⟩
  · exact .inl h2
  · exact .inr ⟨g, cap, cur, rfl, Nat.le_trans hb hg, r⟩

/-- what put comes to -/
def PutTo (l : List Int) (a : Int) (w : World) (e : Ending) (w' : World) : Prop := ∃ v, e = .returned v ∧ w'.ownsRow w.heap.size 5 1 v (l ++ Spec.enc a).length (nums .u8 (l ++ Spec.enc a)) ∧ Below w.heap.size w w'

set_option maxHeartbeats 1000000 in
theorem put_1 (A : Option Addr) (l : List Int) (a : Int) (w : World) (hr : RowAt .u8 w A l) (hA : A = none → l.length = 0) (hl : l.length ≤ 100000000000000) (h1 : a < 128) (h0 : 0 ≤ a) :
    Calls Try.prog 32 #[.slice A l.length l.length, .int .i64 a] w (PutTo l a w) := by
  obtain ⟨i0, hi0, hz0, hz1, hz2⟩ := info_parts info_u8
  have HR := Lib.hid hr
  have HA := Lib.hid hA
  clear hr hA
  have he : [a] = Spec.enc a := by
    unfold Spec.enc
    rw [if_pos h1]
  have HE := Lib.hid he
  clear he
  generalize hn : l.length = n at *
  have HN := Lib.hid hn
  clear hn
  go_enter Try.func32, Try.ntmps32
  go_wp2_with
    (at_builtin; refine wpList_append_grows _ rfl (.tmp 8) (.tmp 11) 39 rfl 5 i0 _ 1 1 Try.underlying39 hi0 hz0 hz1 hz2 rfl (by omega) A n n (nums .u8 l) rfl (fun h => ⟨HA.out h, HA.out h⟩) (by rw [nums_length, HN.out]; omega) ?c1 ⟨w.heap.size, 0, none⟩ 1 1 (nums .u8 [a]) rfl rfl ?c2 ?c3 (by omega) (by unfold maxLen; omega) (by omega) ?_; (case c1 => (intro b hb j u hu; exact (HR.out.below ((Below.refl _ _).alloc (Nat.le_refl _) _)).cells b hb j u hu)); (case c2 => (simpa [nums] using World.news_of_block (t := 5) (fr := (0, 0)) (heap_alloc_new w (.cells (nums .u8 [a]).toArray 5)))); (case c3 => exact nums_one); intro v' w1 hown hg)
  have hb : Below w.heap.size w w1 := ((Below.refl w.heap.size w).alloc (Nat.le_refl _) _).trans ((grown_below hg).mono (by simp))
  rw [← nums_append, HE.out] at hown
  have HO := Lib.hid hown
  have HB := Lib.hid hb
  clear hown hb hg
  go_wp2
  go_ret
  refine ⟨v', rfl, ?_, HB.out⟩
  have hlen : (l ++ Spec.enc a).length = n + 1 := by rw [List.length_append, HN.out, ← HE.out]; rfl
  rw [hlen]
  exact own_base_le HO.out (by simp)

set_option maxHeartbeats 1000000 in
theorem put_2 (A : Option Addr) (l : List Int) (a : Int) (w : World) (hr : RowAt .u8 w A l) (hA : A = none → l.length = 0) (hl : l.length ≤ 100000000000000) (h0 : 128 ≤ a) (h1 : a < 2048) :
    Calls Try.prog 32 #[.slice A l.length l.length, .int .i64 a] w (PutTo l a w) := by
  obtain ⟨i0, hi0, hz0, hz1, hz2⟩ := info_parts info_u8
  have HR := Lib.hid hr
  have HA := Lib.hid hA
  clear hr hA
  have he : [bits .or .i64 192 (a / 64) % 256, bits .or .i64 128 (bits .and .i64 a 63) % 256] = Spec.enc a := by
    unfold Spec.enc
    rw [if_neg (by omega), if_pos h1]
    rw [or192 _ (by omega) (by omega), and63 _ (by omega) (by omega), or128 _ (by omega) (by omega)]; congr 1; omega; congr 1; omega
  have HE := Lib.hid he
  clear he
  generalize hn : l.length = n at *
  have HN := Lib.hid hn
  clear hn
  go_enter Try.func32, Try.ntmps32
  go_wp2_with
    (at_builtin; refine wpList_append_grows _ rfl (.tmp 16) (.tmp 25) 39 rfl 5 i0 _ 1 1 Try.underlying39 hi0 hz0 hz1 hz2 rfl (by omega) A n n (nums .u8 l) rfl (fun h => ⟨HA.out h, HA.out h⟩) (by rw [nums_length, HN.out]; omega) ?c1 ⟨w.heap.size, 0, none⟩ 2 2 (nums .u8 [bits .or .i64 192 (a / 64) % 256, bits .or .i64 128 (bits .and .i64 a 63) % 256]) rfl rfl ?c2 ?c3 (by omega) (by unfold maxLen; omega) (by omega) ?_; (case c1 => (intro b hb j u hu; exact (HR.out.below ((Below.refl _ _).alloc (Nat.le_refl _) _)).cells b hb j u hu)); (case c2 => (simpa [nums] using World.news_of_block (t := 5) (fr := (0, 0)) (heap_alloc_new w (.cells (nums .u8 [bits .or .i64 192 (a / 64) % 256, bits .or .i64 128 (bits .and .i64 a 63) % 256]).toArray 5)))); (case c3 => exact nums_one); intro v' w1 hown hg)
  have hb : Below w.heap.size w w1 := ((Below.refl w.heap.size w).alloc (Nat.le_refl _) _).trans ((grown_below hg).mono (by simp))
  rw [← nums_append, HE.out] at hown
  have HO := Lib.hid hown
  have HB := Lib.hid hb
  clear hown hb hg
  go_wp2
  go_ret
  refine ⟨v', rfl, ?_, HB.out⟩
  have hlen : (l ++ Spec.enc a).length = n + 2 := by rw [List.length_append, HN.out, ← HE.out]; rfl
  rw [hlen]
  exact own_base_le HO.out (by simp)

set_option maxHeartbeats 1000000 in
theorem put_3 (A : Option Addr) (l : List Int) (a : Int) (w : World) (hr : RowAt .u8 w A l) (hA : A = none → l.length = 0) (hl : l.length ≤ 100000000000000) (h0 : 2048 ≤ a) (h1 : a < 65536) :
    Calls Try.prog 32 #[.slice A l.length l.length, .int .i64 a] w (PutTo l a w) := by
  obtain ⟨i0, hi0, hz0, hz1, hz2⟩ := info_parts info_u8
  have HR := Lib.hid hr
  have HA := Lib.hid hA
  clear hr hA
  have he : [bits .or .i64 224 (a / 4096) % 256, bits .or .i64 128 (bits .and .i64 (a / 64) 63) % 256, bits .or .i64 128 (bits .and .i64 a 63) % 256] = Spec.enc a := by
    unfold Spec.enc
    rw [if_neg (by omega), if_neg (by omega), if_pos h1]
    rw [or224 _ (by omega) (by omega), and63 _ (by omega) (by omega), and63 _ (by omega) (by omega), or128 _ (by omega) (by omega), or128 _ (by omega) (by omega)]; congr 1; omega; congr 1; omega; congr 1; omega
  have HE := Lib.hid he
  clear he
  generalize hn : l.length = n at *
  have HN := Lib.hid hn
  clear hn
  go_enter Try.func32, Try.ntmps32
  go_wp2_with
    (at_builtin; refine wpList_append_grows _ rfl (.tmp 30) (.tmp 44) 39 rfl 5 i0 _ 1 1 Try.underlying39 hi0 hz0 hz1 hz2 rfl (by omega) A n n (nums .u8 l) rfl (fun h => ⟨HA.out h, HA.out h⟩) (by rw [nums_length, HN.out]; omega) ?c1 ⟨w.heap.size, 0, none⟩ 3 3 (nums .u8 [bits .or .i64 224 (a / 4096) % 256, bits .or .i64 128 (bits .and .i64 (a / 64) 63) % 256, bits .or .i64 128 (bits .and .i64 a 63) % 256]) rfl rfl ?c2 ?c3 (by omega) (by unfold maxLen; omega) (by omega) ?_; (case c1 => (intro b hb j u hu; exact (HR.out.below ((Below.refl _ _).alloc (Nat.le_refl _) _)).cells b hb j u hu)); (case c2 => (simpa [nums] using World.news_of_block (t := 5) (fr := (0, 0)) (heap_alloc_new w (.cells (nums .u8 [bits .or .i64 224 (a / 4096) % 256, bits .or .i64 128 (bits .and .i64 (a / 64) 63) % 256, bits .or .i64 128 (bits .and .i64 a 63) % 256]).toArray 5)))); (case c3 => exact nums_one); intro v' w1 hown hg)
  have hb : Below w.heap.size w w1 := ((Below.refl w.heap.size w).alloc (Nat.le_refl _) _).trans ((grown_below hg).mono (by simp))
  rw [← nums_append, HE.out] at hown
  have HO := Lib.hid hown
  have HB := Lib.hid hb
  clear hown hb hg
  go_wp2
  go_ret
  refine ⟨v', rfl, ?_, HB.out⟩
  have hlen : (l ++ Spec.enc a).length = n + 3 := by rw [List.length_append, HN.out, ← HE.out]; rfl
  rw [hlen]
  exact own_base_le HO.out (by simp)

set_option maxHeartbeats 1000000 in
theorem put_4 (A : Option Addr) (l : List Int) (a : Int) (w : World) (hr : RowAt .u8 w A l) (hA : A = none → l.length = 0) (hl : l.length ≤ 100000000000000) (h0 : 65536 ≤ a) (h1 : a < 1114112) :
    Calls Try.prog 32 #[.slice A l.length l.length, .int .i64 a] w (PutTo l a w) := by
  obtain ⟨i0, hi0, hz0, hz1, hz2⟩ := info_parts info_u8
  have HR := Lib.hid hr
  have HA := Lib.hid hA
  clear hr hA
  have he : [bits .or .i64 240 (a / 262144) % 256, bits .or .i64 128 (bits .and .i64 (a / 4096) 63) % 256, bits .or .i64 128 (bits .and .i64 (a / 64) 63) % 256, bits .or .i64 128 (bits .and .i64 a 63) % 256] = Spec.enc a := by
    unfold Spec.enc
    rw [if_neg (by omega), if_neg (by omega), if_neg (by omega)]
    rw [or240 _ (by omega) (by omega), and63 _ (by omega) (by omega), and63 _ (by omega) (by omega), and63 _ (by omega) (by omega), or128 _ (by omega) (by omega), or128 _ (by omega) (by omega), or128 _ (by omega) (by omega)]; congr 1; omega; congr 1; omega; congr 1; omega; congr 1; omega
  have HE := Lib.hid he
  clear he
  generalize hn : l.length = n at *
  have HN := Lib.hid hn
  clear hn
  go_enter Try.func32, Try.ntmps32
  go_wp2_with
    (at_builtin; refine wpList_append_grows _ rfl (.tmp 46) (.tmp 65) 39 rfl 5 i0 _ 1 1 Try.underlying39 hi0 hz0 hz1 hz2 rfl (by omega) A n n (nums .u8 l) rfl (fun h => ⟨HA.out h, HA.out h⟩) (by rw [nums_length, HN.out]; omega) ?c1 ⟨w.heap.size, 0, none⟩ 4 4 (nums .u8 [bits .or .i64 240 (a / 262144) % 256, bits .or .i64 128 (bits .and .i64 (a / 4096) 63) % 256, bits .or .i64 128 (bits .and .i64 (a / 64) 63) % 256, bits .or .i64 128 (bits .and .i64 a 63) % 256]) rfl rfl ?c2 ?c3 (by omega) (by unfold maxLen; omega) (by omega) ?_; (case c1 => (intro b hb j u hu; exact (HR.out.below ((Below.refl _ _).alloc (Nat.le_refl _) _)).cells b hb j u hu)); (case c2 => (simpa [nums] using World.news_of_block (t := 5) (fr := (0, 0)) (heap_alloc_new w (.cells (nums .u8 [bits .or .i64 240 (a / 262144) % 256, bits .or .i64 128 (bits .and .i64 (a / 4096) 63) % 256, bits .or .i64 128 (bits .and .i64 (a / 64) 63) % 256, bits .or .i64 128 (bits .and .i64 a 63) % 256]).toArray 5)))); (case c3 => exact nums_one); intro v' w1 hown hg)
  have hb : Below w.heap.size w w1 := ((Below.refl w.heap.size w).alloc (Nat.le_refl _) _).trans ((grown_below hg).mono (by simp))
  rw [← nums_append, HE.out] at hown
  have HO := Lib.hid hown
  have HB := Lib.hid hb
  clear hown hb hg
  go_wp2
  go_ret
  refine ⟨v', rfl, ?_, HB.out⟩
  have hlen : (l ++ Spec.enc a).length = n + 4 := by rw [List.length_append, HN.out, ← HE.out]; rfl
  rw [hlen]
  exact own_base_le HO.out (by simp)


theorem put_any (A : Option Addr) (l : List Int) (a : Int) (w : World) (hr : RowAt .u8 w A l) (hA : A = none → l.length = 0) (hl : l.length ≤ 100000000000000) (ha : Spec.good a = true) :
    Calls Try.prog 32 #[.slice A l.length l.length, .int .i64 a] w (PutTo l a w) := by
  rw [Spec.good_iff] at ha
  rcases (by omega : a < 128 ∨ (128 ≤ a ∧ a < 2048) ∨ (2048 ≤ a ∧ a < 65536) ∨ 65536 ≤ a) with h | ⟨h, h'⟩ | ⟨h, h'⟩ | h
  · exact put_1 A l a w hr hA hl h (by omega)
  · exact put_2 A l a w hr hA hl h h'
  · exact put_3 A l a w hr hA hl h h'
  · exact put_4 A l a w hr hA hl h (by omega)
end Go.Proofs.Ytiboikbccmfedaa
