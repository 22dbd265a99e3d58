/- Contract of the lexer's while. Conditions: the lexer's block reads in memory; the function only reads. -/
import Derived.Test.YtkghglncmekdgaaKc
import Derived.Shelf.RegionOpenPlain
import Derived.Shelf.Abstract
namespace Go.Proofs.Ytkghglncmekdgaa
open Go.RowKit

/-- what a step of the lexer turns: its place alone -/
def Moves (g : Nat) (s : ByteArray) (i : Nat) (w w' : World) : Prop := w.grownBy w' (some g) ∧ w'.heap[g]? = some (lcell s i)

theorem lcell_set {w : World} {g : Nat} {s : ByteArray} {i : Nat} (hg : w.heap[g]? = some (lcell s i)) (j : Nat) : (w.setCell ⟨g, 1, none⟩ (.int .i64 (j : Int))).heap[g]? = some (lcell s j) := by
  simpa [lcell] using blk_set (cs := #[.string s, .int .i64 (i : Int)]) (t := 53) (fr := (0, 0)) hg 1 (.int .i64 (j : Int))
theorem grown_set {w w' : World} {g k : Nat} (h : w.grownBy w' (some g)) (v : Value) : w.grownBy (w'.setCell ⟨g, k, none⟩ v) (some g) :=
  ⟨h.os, h.tape, h.output, by simpa [World.setCell] using h.size, fun j hj hne => (Below.heap_setCell w' _ v j (by intro e; exact hne (by rw [e]))).trans (h.block j hj hne)⟩
theorem grown_drewN {w w' : World} {r : Option Nat} (h : w.grownBy w' r) (n : Nat) : w.grownBy (w'.drewN n) r := ⟨h.os, h.tape, h.output, h.size, h.block⟩
theorem drewN_heap (w : World) (n : Nat) : (w.drewN n).heap = w.heap := rfl

theorem extract_nb (s : ByteArray) (i k : Nat) : s.extract i (i + k) = strOfNums (((nb s).drop i).take k) := by
  conv => lhs; rw [← strOfNums_nb s]
  apply ByteArray.ext
  apply Array.toList_inj.1
  rw [strOfNums_data]
  simp only [ByteArray.data_extract, Array.toList_extract, strOfNums_data, List.map_take, List.map_drop, List.extract_eq_take_drop, Nat.add_sub_cancel_left]

def WhileTo (g : Nat) (s : ByteArray) (i : Nat) (p : Int → Bool) (w : World) (e : Ending) (w' : World) : Prop :=
  e = .returned (.string (strOfNums (((nb s).drop i).take (Kx.span p ((nb s).drop i))))) ∧ Moves g s (i + Kx.span p ((nb s).drop i)) w w'

set_option maxHeartbeats 1000000 in
theorem while_any (F : Nat) (p : Int → Bool) (he : ∀ args w, (callFunc F args).run Try.prog w = .ok (.enter F args) w)
    (hp : ∀ c w, Calls Try.prog F #[.int .u8 c] w fun e w' => e = .returned (.bool (p c)) ∧ w' = w)
    (g : Nat) (s : ByteArray) (i : Nat) (w : World) (hg : w.heap[g]? = some (lcell s i)) (hi : i ≤ s.size) (hs : s.size ≤ 100000) :
    Calls Try.prog 15 #[.pointer (some ⟨g, 0, none⟩), .func (.func F) #[] #[]] w (WhileTo g s i p w) := by
  have HG := Lib.hid hg
  have c0 := blk_cell hg 0
  have c1 := blk_cell hg 1
  clear hg
  go_enter Try.func15, Try.ntmps15
  go_wp2
  have hsp := Kx.span_le p ((nb s).drop i)
  rw [List.length_drop, nb_length] at hsp
  go_loopg [10] (s.size - i) (fun gk _ wr => ∃ k : Nat, i + k + gk = s.size ∧ k ≤ Kx.span p ((nb s).drop i) ∧ Moves g s (i + k) w wr)
  case atStart => exact ⟨0, by omega, Nat.zero_le _, ⟨rfl, rfl, rfl, Nat.le_refl _, fun _ _ _ => rfl⟩, HG.out⟩
  case round =>
    obtain ⟨k, hk, hks, hgr, hb⟩ := hrel
    obtain ⟨j, hj⟩ : ∃ j, i + k = j := ⟨_, rfl⟩
    rw [hj] at hk hb
    have d0 := blk_cell hb 0
    have d1 := blk_cell hb 1
    have df := blk_frozen hb 1
    have HB := Lib.hid hb
    have HM := Lib.hid hgr
    have HK := Lib.hid hks
    clear hb hgr hks c0 c1
    by_cases hlt : k < Kx.span p ((nb s).drop i)
    · have hlt' : j < s.size := by omega
      have hpk := Kx.span_lt p _ k hlt
      rw [← Kx.gt_drop, hj, ← byte_gt s j hlt'] at hpk
      obtain ⟨b, hbb⟩ : ∃ b, s[j] = b := ⟨_, rfl⟩
      rw [hbb] at hpk
      have hjz : (j : Int) < (s.size : Int) := by omega
      have hj63 : (j : Int) + 1 ≤ 9223372036854775807 := by omega
      have HSP := Lib.hid hsp
      have HLT := Lib.hid hlt
      have HJ := Lib.hid hj
      have HKK := Lib.hid hk
      clear hlt hsp hj hk
      obtain ⟨gk, rfl⟩ : ∃ q, gk = q + 1 := ⟨gk - 1, by have := HKK.out; omega⟩
      go_wp2
      go_quiet ((go_at_fn F; exact Calls.quiet_of_same ((hp _ _).mono (fun e w' ⟨h1, h2⟩ => ⟨by rw [h1, hpk], h2⟩))))
      go_wp2
      go_roundg gk
      case measure => omega
      case rel =>
        have hj := HJ.out
        refine ⟨k + 1, by have := HKK.out; omega, HLT.out, grown_set (grown_drewN HM.out _) _, ?_⟩
        have := lcell_set (w := wr.drewN nq) (g := g) (s := s) (i := j) HB.out (j + 1)
        rw [← Nat.add_assoc, hj]
        simpa using this
    · have hkk : k = Kx.span p ((nb s).drop i) := by have := HK.out; omega
      have hstop : s.size ≤ j ∨ (∃ h : j < s.size, p (s[j].toNat : Int) = false) := by
        rcases Nat.lt_or_ge j s.size with h | h
        · right
          refine ⟨h, ?_⟩
          rw [byte_gt s j h, ← hj, Kx.gt_drop, hkk]
          exact Kx.span_end p _ (by rw [List.length_drop, nb_length]; omega)
        · exact .inl h
      have fin : ∀ m n, Moves g s (i + Kx.span p ((nb s).drop i)) w ((wr.drewN m).drewN n) := fun m n => ⟨grown_drewN (grown_drewN HM.out m) n, by rw [← hkk, hj]; exact HB.out⟩
      have hres : s.extract i j = strOfNums (((nb s).drop i).take (Kx.span p ((nb s).drop i))) := by rw [← hj, hkk]; exact extract_nb s i _
      have HF := Lib.hid fin
      have HRS := Lib.hid hres
      have hij : (i : Int) ≤ (j : Int) := by omega
      have hjs : (j : Int) ≤ (s.size : Int) := by omega
      clear fin hres hkk hlt hsp hk
      rcases hstop with h | ⟨h, hpf⟩
      · have hjz : decide (j < s.size) = false := decide_eq_false (by omega)
        clear h
        go_wp2
        go_quiet (fail)
        go_wp2
        go_quiet (fail)
        go_wp2
        refine bodyPost_ret (results_tmp rfl _ _ _) rfl ⟨?_, ?_⟩
        rotate_left
        · exact HF.out _ _
        rw [← HRS.out]
        rfl
      · obtain ⟨b, hbb⟩ : ∃ b, s[j] = b := ⟨_, rfl⟩
        rw [hbb] at hpf
        have hjz : (j : Int) < (s.size : Int) := by omega
        go_wp2
        go_quiet ((go_at_fn F; exact Calls.quiet_of_same ((hp _ _).mono (fun e w' ⟨h1, h2⟩ => ⟨by rw [h1, hpf], h2⟩))))
        go_wp2
        go_quiet (fail)
        go_wp2
        refine bodyPost_ret (results_tmp rfl _ _ _) rfl ⟨?_, ?_⟩
        rotate_left
        · exact HF.out _ _
        rw [← HRS.out]
        rfl
end Go.Proofs.Ytkghglncmekdgaa
