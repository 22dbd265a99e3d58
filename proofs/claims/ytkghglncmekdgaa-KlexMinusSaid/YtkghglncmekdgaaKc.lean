/- Contracts of the lexer's small functions: digit, letter, the closures, peek. Conditions: the lexer's block reads in memory. -/
import Derived.Test.YtkghglncmekdgaaKb
import Derived.Test.YtkghglncmekdgaaModel
namespace Go.Proofs.Ytkghglncmekdgaa
open Go.RowKit

theorem dig_any (c : Int) (w : World) : Calls Try.prog 27 #[.int .u8 c] w fun e w' => e = .returned (.bool (Kx.dig c)) ∧ w' = w := by
  unfold Kx.dig
  by_cases h1 : 48 ≤ c <;> by_cases h2 : c ≤ 57
  all_goals
    go_enter Try.func27, Try.ntmps27
    go_wp2
    go_ret
    exact ⟨by simp [h1, h2], rfl⟩

theorem low_any (c : Int) (w : World) : Calls Try.prog 25 #[.int .u8 c] w fun e w' => e = .returned (.bool (Kx.low c)) ∧ w' = w := by
  unfold Kx.low
  by_cases h1 : 97 ≤ c <;> by_cases h2 : c ≤ 122
  all_goals
    go_enter Try.func25, Try.ntmps25
    go_wp2
    go_ret
    exact ⟨by simp [h1, h2], rfl⟩

theorem alnum_any (c : Int) (w : World) : Calls Try.prog 26 #[.int .u8 c] w fun e w' => e = .returned (.bool (Kx.alnum c)) ∧ w' = w := by
  unfold Kx.alnum
  go_enter Try.func26, Try.ntmps26
  go_wp2_with fail
  refine (low_any c w).mono ?_
  rintro e w1 ⟨rfl, rfl⟩
  cases h1 : Kx.low c
  · go_wp2_with fail
    refine (dig_any c _).mono ?_
    rintro e w2 ⟨rfl, rfl⟩
    go_wp2
    go_ret
    exact ⟨by simp [h1], rfl⟩
  · go_wp2
    go_ret
    exact ⟨by simp [h1], rfl⟩

theorem blank16_any (c : Int) (w : World) : Calls Try.prog 16 #[.int .u8 c] w fun e w' => e = .returned (.bool (Kx.blank c)) ∧ w' = w := by
  unfold Kx.blank
  go_enter Try.func16, Try.ntmps16
  go_wp2
  go_ret
  exact ⟨rfl, rfl⟩
theorem blank37_any (c : Int) (w : World) : Calls Try.prog 37 #[.int .u8 c] w fun e w' => e = .returned (.bool (Kx.blank c)) ∧ w' = w := by
  unfold Kx.blank
  go_enter Try.func37, Try.ntmps37
  go_wp2
  go_ret
  exact ⟨rfl, rfl⟩

/-- the lexer's block -/
def lcell (s : ByteArray) (i : Nat) : Obj := .cells #[.string s, .int .i64 (i : Int)] 53 (0, 0)

/-- a text's bytes as numbers -/
def nb (s : ByteArray) : List Int := s.data.toList.map fun x => (x.toNat : Int)
theorem nb_length (s : ByteArray) : (nb s).length = s.size := by unfold nb; rw [List.length_map, Array.length_toList]; rfl
theorem nb_getD (s : ByteArray) (i : Nat) (h : i < s.size) : (nb s).getD i 0 = (s[i].toNat : Int) := by
  have h2 : i < s.data.toList.length := by rw [Array.length_toList]; exact h
  have h3 : (nb s)[i]? = some ((s[i].toNat : Nat) : Int) := by
    simp only [nb, List.getElem?_map, List.getElem?_eq_getElem h2, Option.map_some]
    rfl
  rw [List.getD_eq_getElem?_getD, h3]; rfl
theorem strOfNums_nb (s : ByteArray) : strOfNums (nb s) = s := by
  apply ByteArray.ext
  apply Array.toList_inj.1
  rw [strOfNums_data]
  unfold nb
  rw [List.map_map]
  conv => rhs; rw [← List.map_id s.data.toList]
  apply List.map_congr_left
  intro x _
  simp
theorem nb_bytes (s : ByteArray) : Spec.Bytes (nb s) := by
  intro x hx
  obtain ⟨b, _, rfl⟩ := List.mem_map.1 hx
  have := b.toNat_lt
  omega
theorem byte_gt (s : ByteArray) (i : Nat) (h : i < s.size) : ((s[i].toNat : Nat) : Int) = Kx.gt (nb s) i := (nb_getD s i h).symm
theorem gt_past (s : ByteArray) (i : Nat) (h : s.size ≤ i) : Kx.gt (nb s) i = 0 := by
  unfold Kx.gt
  rw [List.getD_eq_getElem?_getD, List.getElem?_eq_none (by rw [nb_length]; exact h)]; rfl

def PeekTo (c : Int) (w : World) (e : Ending) (w' : World) : Prop := e = .returned (.int .u8 c) ∧ w = w'

theorem peek_at (g : Nat) (s : ByteArray) (i : Nat) (k : Int) (j : Nat) (w : World) (hg : w.heap[g]? = some (lcell s i)) (hj : (i : Int) + k = j) (hi : j ≤ 1000000) :
    Calls Try.prog 17 #[.pointer (some ⟨g, 0, none⟩), .int .i64 k] w (PeekTo (Kx.gt (nb s) j) w) := by
  have c0 := blk_cell hg 0
  have c1 := blk_cell hg 1
  clear hg
  by_cases hlt : j < s.size
  · have hx := Lib.hid (byte_gt s j hlt)
    obtain ⟨b, hb⟩ : ∃ b, s[j] = b := ⟨_, rfl⟩
    go_enter Try.func17, Try.ntmps17
    go_wp2
    go_ret
    refine ⟨?_, rfl⟩
    rw [← hx.out, hb]; rfl
  · have hp := Lib.hid (gt_past s j (by omega))
    go_enter Try.func17, Try.ntmps17
    go_wp2
    go_ret
    exact ⟨by rw [hp.out]; rfl, rfl⟩

theorem peek_ahead (g : Nat) (s : ByteArray) (w : World) (hg : w.heap[g]? = some (lcell s 0)) :
    Calls Try.prog 17 #[.pointer (some ⟨g, 0, none⟩), .int .i64 (-1)] w (PeekTo 0 w) := by
  have c0 := blk_cell hg 0
  have c1 := blk_cell hg 1
  clear hg
  go_enter Try.func17, Try.ntmps17
  go_wp2
  go_ret
  exact ⟨rfl, rfl⟩
/-- the byte ahead of the place -/
theorem peek_prev (g : Nat) (s : ByteArray) (i : Nat) (w : World) (hg : w.heap[g]? = some (lcell s i)) (hi : i ≤ 1000000) :
    Calls Try.prog 17 #[.pointer (some ⟨g, 0, none⟩), .int .i64 (-1)] w (PeekTo (Kx.prev (nb s) i) w) := by
  cases i with
  | zero => exact peek_ahead g s w hg
  | succ k => exact peek_at g s (k + 1) (-1) k w hg (by omega) (by omega)
theorem peek_here (g : Nat) (s : ByteArray) (i : Nat) (w : World) (hg : w.heap[g]? = some (lcell s i)) (hi : i ≤ 1000000) :
    Calls Try.prog 17 #[.pointer (some ⟨g, 0, none⟩), .int .i64 0] w (PeekTo (Kx.gt (nb s) i) w) := peek_at g s i 0 i w hg (by omega) hi
theorem peek_next (g : Nat) (s : ByteArray) (i : Nat) (w : World) (hg : w.heap[g]? = some (lcell s i)) (hi : i ≤ 100000) :
    Calls Try.prog 17 #[.pointer (some ⟨g, 0, none⟩), .int .i64 1] w (PeekTo (Kx.gt (nb s) (i + 1)) w) := peek_at g s i 1 (i + 1) w hg (by omega) (by omega)
end Go.Proofs.Ytkghglncmekdgaa
