/- Contracts of the lexer's small functions: digit, letter, fail, byte. Conditions: the lexer's block reads in memory. -/
import Derived.Test.YtiboikbccmfedaaKb
import Derived.Test.YtiboikbccmfedaaModel2
import Derived.Shelf.RegionOpenPlain
import Derived.Shelf.Abstract
namespace Go.Proofs.Ytiboikbccmfedaa
open Go.RowKit

/-- a text's bytes as numbers -/
def nb (s : ByteArray) : List Int := s.data.toList.map fun x => (x.toNat : Int)
theorem nb_length (s : ByteArray) : (nb s).length = s.size := by unfold nb; rw [List.length_map, Array.length_toList]; rfl
theorem nb_getD (s : ByteArray) (i : Nat) (h : i < s.size) : (nb s).getD i 0 = (s[i].toNat : Int) := by
  have h2 : i < s.data.toList.length := by rw [Array.length_toList]; exact h
  have h3 : (nb s)[i]? = some ((s[i].toNat : Nat) : Int) := by
    simp only [nb, List.getElem?_map, List.getElem?_eq_getElem h2, Option.map_some]
    rfl
  rw [List.getD_eq_getElem?_getD, h3]; rfl
theorem strOfNums_nb (s : ByteArray) : strOfNums (nb s) = s := by
  apply ByteArray.ext
  apply Array.toList_inj.1
  rw [strOfNums_data]
  unfold nb
  rw [List.map_map]
  conv => rhs; rw [← List.map_id s.data.toList]
  apply List.map_congr_left
  intro x _
  simp
theorem nb_bytes (s : ByteArray) : Spec.Bytes (nb s) := by
  intro x hx
  obtain ⟨b, _, rfl⟩ := List.mem_map.1 hx
  have := b.toNat_lt
  omega
theorem byte_gt (s : ByteArray) (i : Nat) (h : i < s.size) : ((s[i].toNat : Nat) : Int) = Kx.gt (nb s) i := (nb_getD s i h).symm
theorem gt_past (s : ByteArray) (i : Nat) (h : s.size ≤ i) : Kx.gt (nb s) i = 0 := by
  unfold Kx.gt
  rw [List.getD_eq_getElem?_getD, List.getElem?_eq_none (by rw [nb_length]; exact h)]; rfl

theorem grown_set {w w' : World} {g k : Nat} (h : w.grownBy w' (some g)) (v : Value) : w.grownBy (w'.setCell ⟨g, k, none⟩ v) (some g) :=
  ⟨h.os, h.tape, h.output, by simpa [World.setCell] using h.size, fun j hj hne => (Below.heap_setCell w' _ v j (by intro e; exact hne (by rw [e]))).trans (h.block j hj hne)⟩
theorem grown_drewN {w w' : World} {r : Option Nat} (h : w.grownBy w' r) (n : Nat) : w.grownBy (w'.drewN n) r := ⟨h.os, h.tape, h.output, h.size, h.block⟩
theorem drewN_heap (w : World) (n : Nat) : (w.drewN n).heap = w.heap := rfl

theorem extract_nb (s : ByteArray) (i k : Nat) : s.extract i (i + k) = strOfNums (((nb s).drop i).take k) := by
  conv => lhs; rw [← strOfNums_nb s]
  apply ByteArray.ext
  apply Array.toList_inj.1
  rw [strOfNums_data]
  simp only [ByteArray.data_extract, Array.toList_extract, strOfNums_data, List.map_take, List.map_drop, List.extract_eq_take_drop, Nat.add_sub_cancel_left]

theorem dig_any (c : Int) (w : World) : Calls Try.prog 34 #[.int .u8 c] w fun e w' => e = .returned (.bool (Kx.dig c)) ∧ w' = w := by
  unfold Kx.dig
  by_cases h1 : 48 ≤ c <;> by_cases h2 : c ≤ 57
  all_goals
    go_enter Try.func34, Try.ntmps34
    go_wp2
    go_ret
    exact ⟨by simp [h1, h2], rfl⟩
theorem low_any (c : Int) (w : World) : Calls Try.prog 25 #[.int .u8 c] w fun e w' => e = .returned (.bool (Kx.low c)) ∧ w' = w := by
  unfold Kx.low
  by_cases h1 : 97 ≤ c <;> by_cases h2 : c ≤ 119
  all_goals
    go_enter Try.func25, Try.ntmps25
    go_wp2
    go_ret
    exact ⟨by simp [h1, h2], rfl⟩

/-- the lexer's block: text, place, words so far, fault -/
def acell (s : ByteArray) (v : Value) (i : Nat) (er fp : Int) : Obj := .cells #[.string s, .int .i64 (i : Int), v, .int .i64 er, .int .i64 fp, .int .i64 0] 47 (0, 0)
/-- what a step of the lexer turns: its place and its fault -/
def Moves (g : Nat) (s : ByteArray) (v : Value) (i : Nat) (er fp : Int) (w w' : World) : Prop := w.grownBy w' (some g) ∧ w'.heap[g]? = some (acell s v i er fp)
theorem moves_refl {g : Nat} {s : ByteArray} {v : Value} {i : Nat} {er fp : Int} {w : World} (hg : w.heap[g]? = some (acell s v i er fp)) : Moves g s v i er fp w w := ⟨⟨rfl, rfl, rfl, Nat.le_refl _, fun _ _ _ => rfl⟩, hg⟩
theorem moves_step {g : Nat} {s : ByteArray} {v v' : Value} {i j : Nat} {er fp er' fp' : Int} {w w' w'' : World} (h : Moves g s v i er fp w w') (k : Moves g s v' j er' fp' w' w'') : Moves g s v' j er' fp' w w'' := ⟨h.1.trans k.1, k.2⟩
theorem moves_below {g : Nat} {s : ByteArray} {v : Value} {i : Nat} {er fp : Int} {w w' w'' : World} (h : Moves g s v i er fp w w') (k : Below w'.heap.size w' w'') : Moves g s v i er fp w w'' := by
  have hb := blk_lt h.2
  refine ⟨⟨k.os.trans h.1.os, k.tape.trans h.1.tape, k.output.trans h.1.output, Nat.le_trans h.1.size k.size, fun j hj hne => (k.block j (Nat.lt_of_lt_of_le hj h.1.size)).trans (h.1.block j hj hne)⟩, blk_below h.2 k hb⟩
theorem moves_drewN {g : Nat} {s : ByteArray} {v : Value} {i : Nat} {er fp : Int} {w w' : World} (h : Moves g s v i er fp w w') (n : Nat) : Moves g s v i er fp w (w'.drewN n) := ⟨⟨h.1.os, h.1.tape, h.1.output, h.1.size, h.1.block⟩, h.2⟩
theorem moves_drew {g : Nat} {s : ByteArray} {v : Value} {i : Nat} {er fp : Int} {w w' : World} (h : Moves g s v i er fp w w') : Moves g s v i er fp w w'.drew := ⟨⟨h.1.os, h.1.tape, h.1.output, h.1.size, h.1.block⟩, h.2⟩
theorem moves_set {g : Nat} {s : ByteArray} {v : Value} {i : Nat} {er fp : Int} {w w' : World} (h : Moves g s v i er fp w w') (j : Nat) : Moves g s v j er fp w (w'.setCell ⟨g, 1, none⟩ (.int .i64 (j : Int))) :=
  ⟨grown_set h.1 _, by simpa [acell] using blk_set (cs := #[.string s, .int .i64 (i : Int), v, .int .i64 er, .int .i64 fp, .int .i64 0]) (t := 47) (fr := (0, 0)) h.2 1 (.int .i64 (j : Int))⟩
theorem moves_alloc {g : Nat} {s : ByteArray} {v : Value} {i : Nat} {er fp : Int} {w w' : World} (h : Moves g s v i er fp w w') (o : Obj) : Moves g s v i er fp w (w'.alloc o) := moves_below h ((Below.refl _ _).alloc (Nat.le_refl _) o)
theorem moves_old {g : Nat} {s : ByteArray} {v : Value} {k : Nat} {er fp : Int} {w w' : World} {B : Nat} (h : Moves g s v k er fp w w') (hB : w.heap.size ≤ B) (hg : g < w.heap.size) (i : Nat) (u : Value) : Moves g s v k er fp w (w'.setCell ⟨B, i, none⟩ u) :=
  ⟨⟨h.1.os, h.1.tape, h.1.output, by simpa [World.setCell] using h.1.size, fun j hj hne => (Below.heap_setCell w' _ u j (by simp; omega)).trans (h.1.block j hj hne)⟩, blk_far h.2 (by simp; omega) u⟩
theorem moves_own {g : Nat} {s : ByteArray} {v : Value} {k : Nat} {er fp : Int} {w w' w'' : World} {r : Option Nat} (h : Moves g s v k er fp w w') (hw : w'.grownBy w'' r) (hg : g < w.heap.size) (hr : ∀ b, r = some b → w.heap.size ≤ b) : Moves g s v k er fp w w'' := by
  have hne : ∀ b, b < w.heap.size → r ≠ some b := fun b hb e => by have := hr b e; omega
  exact ⟨⟨hw.os.trans h.1.os, hw.tape.trans h.1.tape, hw.output.trans h.1.output, Nat.le_trans h.1.size hw.size, fun j hj hn => (hw.block j (Nat.lt_of_lt_of_le hj h.1.size) (fun e => hne j hj e.symm)).trans (h.1.block j hj hn)⟩, blk_grown h.2 hw (hne g hg)⟩

/-- behind a fault -/
def FailTo (g : Nat) (s : ByteArray) (v : Value) (i : Nat) (er fp : Int) (w : World) (e : Ending) (w' : World) : Prop := e = .returned (.tuple #[]) ∧ Moves g s v i er fp w w'
theorem fail_any (g : Nat) (s : ByteArray) (v : Value) (i : Nat) (fp er at_ : Int) (w : World) (hg : w.heap[g]? = some (acell s v i 0 fp)) :
    Calls Try.prog 20 #[.pointer (some ⟨g, 0, none⟩), .int .i64 er, .int .i64 at_] w (FailTo g s v i er at_ w) := by
  have c3 := blk_cell hg 3
  have c4 := blk_cell hg 4
  have c5 := blk_cell hg 5
  have f3 := blk_frozen hg 3
  have f4 := blk_frozen hg 4
  have f5 := blk_frozen hg 5
  have HG := Lib.hid hg
  clear hg
  go_enter Try.func20, Try.ntmps20
  go_wp2
  refine bodyPost_ret (v := .tuple #[]) (by simp [results, Try.results20, go_sem]) rfl ?_
  refine ⟨rfl, grown_set (grown_set (grown_set (moves_refl HG.out).1 _) _) _, ?_⟩
  simpa [acell] using blk_set (blk_set (blk_set (cs := #[.string s, .int .i64 (i : Int), v, .int .i64 0, .int .i64 fp, .int .i64 0]) (t := 47) (fr := (0, 0)) HG.out 3 (.int .i64 er)) 4 (.int .i64 at_)) 5 (.int .i64 0)

def PeekTo (c : Int) (w : World) (e : Ending) (w' : World) : Prop := e = .returned (.int .u8 c) ∧ ∃ n, w' = w.drewN n
theorem byte_at (g : Nat) (s : ByteArray) (v : Value) (i : Nat) (er fp : Int) (k j : Nat) (w : World) (hg : w.heap[g]? = some (acell s v i er fp)) (hj : (i : Int) + (k : Int) = (j : Int)) (hi : j ≤ 1000000) :
    Calls Try.prog 21 #[.pointer (some ⟨g, 0, none⟩), .int .i64 (k : Int)] w (PeekTo (Kx.gt (nb s) j) w) := by
  have c0 := blk_cell hg 0
  have c1 := blk_cell hg 1
  clear hg
  by_cases hlt : j < s.size
  · have hx := Lib.hid (byte_gt s j hlt)
    obtain ⟨b, hb⟩ : ∃ b, s[j] = b := ⟨_, rfl⟩
    have hd2 : decide (j < s.size) = true := decide_eq_true hlt
    go_enter Try.func21, Try.ntmps21
    go_wp2
    go_quiet (fail)
    go_wp2
    go_quiet (fail)
    go_wp2
    refine bodyPost_ret (v := .int .u8 (b.toNat : Int)) (by simp [results, Try.results21, go_sem]) rfl ?_
    refine ⟨?_, _, World.drewN_drewN _ _ _⟩
    rw [← hx.out, hb]
  · have hp := Lib.hid (gt_past s j (by omega))
    have hd2 : decide (j < s.size) = false := decide_eq_false hlt
    go_enter Try.func21, Try.ntmps21
    go_wp2
    go_quiet (fail)
    go_wp2
    refine bodyPost_ret (v := .int .u8 0) (by simp [results, Try.results21, go_sem]) rfl ?_
    exact ⟨by rw [hp.out], _, rfl⟩
theorem byte_any (g : Nat) (s : ByteArray) (v : Value) (i : Nat) (er fp : Int) (k : Nat) (w : World) (hg : w.heap[g]? = some (acell s v i er fp)) (hi : i ≤ 100000) (hk : k ≤ 100000) :
    Calls Try.prog 21 #[.pointer (some ⟨g, 0, none⟩), .int .i64 (k : Int)] w (PeekTo (Kx.gt (nb s) (i + k)) w) := byte_at g s v i er fp k (i + k) w hg (by omega) (by omega)
end Go.Proofs.Ytiboikbccmfedaa
