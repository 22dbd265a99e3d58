/- Contracts of the reference's Good, width and Put. Conditions: the numbers are of their kinds. -/
import Derived.Test.YtiboikbccmfedaaKi
import Derived.Laws.MakeOwn
namespace Go.Proofs.Ytiboikbccmfedaa
open Go.RowKit

theorem enc_len (x : Int) : 1 ≤ (Spec.enc x).length ∧ (Spec.enc x).length ≤ 4 := by unfold Spec.enc; split <;> (try split) <;> (try split) <;> simp
theorem rgood_any (a : Int) (w : World) : Calls Try.prog 9 #[.int .i64 a] w fun e w' => e = .returned (.bool (Spec.good a)) ∧ w = w' := by
  by_cases h1 : 0 ≤ a <;> by_cases h2 : a < 1114112 <;> by_cases h3 : a < 55296 <;> by_cases h4 : 57343 < a
  all_goals first | (exfalso; omega) | skip
  all_goals
    go_enter Try.func9, Try.ntmps9
    go_wp2
    go_ret
    refine ⟨?_, rfl⟩
    congr 2
    unfold Spec.good
    simp
    try omega

theorem ret_one {k : IntKind} {a a' : Int} (h : a = a') : Ending.returned (.int k a) = .returned (.int k a') := by rw [h]
def WidthTo (a : Int) (w : World) (e : Ending) (w' : World) : Prop := e = .returned (.int .i64 ((Spec.enc a).length : Int)) ∧ w = w'
theorem width_any (a : Int) (w : World) : Calls Try.prog 16 #[.int .i64 a] w (WidthTo a w) := by
  rcases (by omega : a < 128 ∨ (128 ≤ a ∧ a < 2048) ∨ (2048 ≤ a ∧ a < 65536) ∨ 65536 ≤ a) with h | ⟨h, h'⟩ | ⟨h, h'⟩ | h
  · go_enter Try.func16, Try.ntmps16
    go_wp2
    go_ret
    exact ⟨ret_one (by unfold Spec.enc; rw [if_pos h]; rfl), rfl⟩
  · go_enter Try.func16, Try.ntmps16
    go_wp2
    go_ret
    exact ⟨ret_one (by unfold Spec.enc; rw [if_neg (by omega), if_pos (by omega)]; rfl), rfl⟩
  · go_enter Try.func16, Try.ntmps16
    go_wp2
    go_ret
    exact ⟨ret_one (by unfold Spec.enc; rw [if_neg (by omega), if_neg (by omega), if_pos (by omega)]; rfl), rfl⟩
  · go_enter Try.func16, Try.ntmps16
    go_wp2
    go_ret
    exact ⟨ret_one (by unfold Spec.enc; rw [if_neg (by omega), if_neg (by omega), if_neg (by omega)]; rfl), rfl⟩

/-- what the reference's Put comes to -/
def RPutTo (a : Int) (w : World) (e : Ending) (w' : World) : Prop := ∃ v, e = .returned v ∧ w'.ownsRow w.heap.size 5 1 v (Spec.enc a).length (nums .u8 (Spec.enc a)) ∧ Below w.heap.size w w'

theorem put_row (w : World) (l : List Int) (hl : l.length ≤ 4) : (w.alloc (.cells (nums .u8 l).toArray 5)).ownsRow w.heap.size 5 1 (.slice (some ⟨w.heap.size, 0, none⟩) l.length l.length) l.length (nums .u8 l) := by
  have := World.ownsRow_lit (base := w.heap.size) (e := 5) (size := 1) w (nums .u8 l).toArray l.length (Nat.le_refl _) (by unfold maxLen; omega) (by simp [nums])
  simpa using this

set_option maxHeartbeats 1000000 in
theorem rput_1 (a : Int) (w : World) (h0 : 0 ≤ a) (h1 : a < 128) : Calls Try.prog 10 #[.int .i64 a] w (RPutTo a w) := by
  have he : Spec.enc a = [a] := by unfold Spec.enc; rw [if_pos h1]
  have HE := Lib.hid he
  clear he
  have hmk : ∀ W : World, (Instr.makeSlice 39 (.int .i64 1) (.int .i64 1)).run Try.prog W = .ok (.slice (some ⟨W.heap.size, 0, none⟩) 1 1) (W.alloc (.cells #[.int .u8 0] 5)) := fun _ => by kernel_rfl
  go_enter Try.func10, Try.ntmps10
  go_wp2_with fail
  refine (width_any a _).mono ?_
  rintro e w1 ⟨rfl, rfl⟩
  rw [show ((Spec.enc a).length : Int) = 1 by rw [HE.out]; rfl]
  go_wp2
  go_loopw [0, 5] (fun n i wr => (i = .int .i64 0 ∧ n = .int .i64 a ∧ wr = w.alloc (.cells #[.int .u8 0] 5))) (fun _ i _ => (intOf i).toNat)
  case atStart => exact ⟨rfl, rfl, rfl⟩
  case round =>
    obtain ⟨rfl, rfl, rfl⟩ := hrel
    go_wp2
    go_ret
    have hl : Spec.enc a = [a] := by rw [HE.out]
    have hr := put_row w (Spec.enc a) (enc_len a).2
    refine ⟨.slice (some ⟨w.heap.size, 0, none⟩) 1 1, rfl, ?_, (Below.refl _ _).alloc (Nat.le_refl _) _⟩
    rw [hl] at hr ⊢
    exact hr

set_option maxHeartbeats 1000000 in
theorem rput_2 (a : Int) (w : World) (h0 : 128 ≤ a) (h1 : a < 2048) : Calls Try.prog 10 #[.int .i64 a] w (RPutTo a w) := by
  have he : Spec.enc a = [192 + a / 64, 128 + a % 64] := by unfold Spec.enc; rw [if_neg (by omega), if_pos h1]
  have HE := Lib.hid he
  clear he
  have hmk : ∀ W : World, (Instr.makeSlice 39 (.int .i64 2) (.int .i64 2)).run Try.prog W = .ok (.slice (some ⟨W.heap.size, 0, none⟩) 2 2) (W.alloc (.cells #[.int .u8 0, .int .u8 0] 5)) := fun _ => by kernel_rfl
  go_enter Try.func10, Try.ntmps10
  go_wp2_with fail
  refine (width_any a _).mono ?_
  rintro e w1 ⟨rfl, rfl⟩
  rw [show ((Spec.enc a).length : Int) = 2 by rw [HE.out]; rfl]
  go_wp2
  go_loopw [0, 5] (fun n i wr => (i = .int .i64 1 ∧ n = .int .i64 a ∧ wr = w.alloc (.cells #[.int .u8 0, .int .u8 0] 5)) ∨ (i = .int .i64 0 ∧ n = .int .i64 (a / 64) ∧ wr = w.alloc (.cells #[.int .u8 0, .int .u8 (128 + a % 64)] 5))) (fun _ i _ => (intOf i).toNat)
  case atStart => exact .inl ⟨rfl, rfl, rfl⟩
  case round =>
    rcases hrel with ⟨rfl, rfl, rfl⟩ | ⟨rfl, rfl, rfl⟩
    · go_wp2
      go_roundw
      case rel => simp
      case measure => simp [intOf]
    · go_wp2
      go_ret
      have hl : Spec.enc a = [192 + a / 64, 128 + a % 64] := by rw [HE.out]
      have hr := put_row w (Spec.enc a) (enc_len a).2
      refine ⟨.slice (some ⟨w.heap.size, 0, none⟩) 2 2, rfl, ?_, (Below.refl _ _).alloc (Nat.le_refl _) _⟩
      rw [hl] at hr ⊢
      exact hr

set_option maxHeartbeats 1000000 in
theorem rput_3 (a : Int) (w : World) (h0 : 2048 ≤ a) (h1 : a < 65536) : Calls Try.prog 10 #[.int .i64 a] w (RPutTo a w) := by
  have he : Spec.enc a = [224 + a / 4096, 128 + a / 64 % 64, 128 + a % 64] := by unfold Spec.enc; rw [if_neg (by omega), if_neg (by omega), if_pos h1]
  have HE := Lib.hid he
  clear he
  have hmk : ∀ W : World, (Instr.makeSlice 39 (.int .i64 3) (.int .i64 3)).run Try.prog W = .ok (.slice (some ⟨W.heap.size, 0, none⟩) 3 3) (W.alloc (.cells #[.int .u8 0, .int .u8 0, .int .u8 0] 5)) := fun _ => by kernel_rfl
  go_enter Try.func10, Try.ntmps10
  go_wp2_with fail
  refine (width_any a _).mono ?_
  rintro e w1 ⟨rfl, rfl⟩
  rw [show ((Spec.enc a).length : Int) = 3 by rw [HE.out]; rfl]
  go_wp2
  go_loopw [0, 5] (fun n i wr => (i = .int .i64 2 ∧ n = .int .i64 a ∧ wr = w.alloc (.cells #[.int .u8 0, .int .u8 0, .int .u8 0] 5)) ∨ (i = .int .i64 1 ∧ n = .int .i64 (a / 64) ∧ wr = w.alloc (.cells #[.int .u8 0, .int .u8 0, .int .u8 (128 + a % 64)] 5)) ∨ (i = .int .i64 0 ∧ n = .int .i64 (a / 64 / 64) ∧ wr = w.alloc (.cells #[.int .u8 0, .int .u8 (128 + (a / 64) % 64), .int .u8 (128 + a % 64)] 5))) (fun _ i _ => (intOf i).toNat)
  case atStart => exact .inl ⟨rfl, rfl, rfl⟩
  case round =>
    rcases hrel with ⟨rfl, rfl, rfl⟩ | ⟨rfl, rfl, rfl⟩ | ⟨rfl, rfl, rfl⟩
    · go_wp2
      go_roundw
      case rel => simp
      case measure => simp [intOf]
    · go_wp2
      go_roundw
      case rel => simp
      case measure => simp [intOf]
    · go_wp2
      go_ret
      have hl : Spec.enc a = [224 + a / 64 / 64, 128 + (a / 64) % 64, 128 + a % 64] := by rw [HE.out]; simp only [List.cons.injEq, and_true]; omega
      have hr := put_row w (Spec.enc a) (enc_len a).2
      refine ⟨.slice (some ⟨w.heap.size, 0, none⟩) 3 3, rfl, ?_, (Below.refl _ _).alloc (Nat.le_refl _) _⟩
      rw [hl] at hr ⊢
      exact hr

set_option maxHeartbeats 1000000 in
theorem rput_4 (a : Int) (w : World) (h0 : 65536 ≤ a) (h1 : a < 1114112) : Calls Try.prog 10 #[.int .i64 a] w (RPutTo a w) := by
  have he : Spec.enc a = [240 + a / 262144, 128 + a / 4096 % 64, 128 + a / 64 % 64, 128 + a % 64] := by unfold Spec.enc; rw [if_neg (by omega), if_neg (by omega), if_neg (by omega)]
  have HE := Lib.hid he
  clear he
  have hmk : ∀ W : World, (Instr.makeSlice 39 (.int .i64 4) (.int .i64 4)).run Try.prog W = .ok (.slice (some ⟨W.heap.size, 0, none⟩) 4 4) (W.alloc (.cells #[.int .u8 0, .int .u8 0, .int .u8 0, .int .u8 0] 5)) := fun _ => by kernel_rfl
  go_enter Try.func10, Try.ntmps10
  go_wp2_with fail
  refine (width_any a _).mono ?_
  rintro e w1 ⟨rfl, rfl⟩
  rw [show ((Spec.enc a).length : Int) = 4 by rw [HE.out]; rfl]
  go_wp2
  go_loopw [0, 5] (fun n i wr => (i = .int .i64 3 ∧ n = .int .i64 a ∧ wr = w.alloc (.cells #[.int .u8 0, .int .u8 0, .int .u8 0, .int .u8 0] 5)) ∨ (i = .int .i64 2 ∧ n = .int .i64 (a / 64) ∧ wr = w.alloc (.cells #[.int .u8 0, .int .u8 0, .int .u8 0, .int .u8 (128 + a % 64)] 5)) ∨ (i = .int .i64 1 ∧ n = .int .i64 (a / 64 / 64) ∧ wr = w.alloc (.cells #[.int .u8 0, .int .u8 0, .int .u8 (128 + (a / 64) % 64), .int .u8 (128 + a % 64)] 5)) ∨ (i = .int .i64 0 ∧ n = .int .i64 (a / 64 / 64 / 64) ∧ wr = w.alloc (.cells #[.int .u8 0, .int .u8 (128 + (a / 64 / 64) % 64), .int .u8 (128 + (a / 64) % 64), .int .u8 (128 + a % 64)] 5))) (fun _ i _ => (intOf i).toNat)
  case atStart => exact .inl ⟨rfl, rfl, rfl⟩
  case round =>
    rcases hrel with ⟨rfl, rfl, rfl⟩ | ⟨rfl, rfl, rfl⟩ | ⟨rfl, rfl, rfl⟩ | ⟨rfl, rfl, rfl⟩
    · go_wp2
      go_roundw
      case rel => simp
      case measure => simp [intOf]
    · go_wp2
      go_roundw
      case rel => simp
      case measure => simp [intOf]
    · go_wp2
      go_roundw
      case rel => simp
      case measure => simp [intOf]
    · go_wp2
      go_ret
      have hl : Spec.enc a = [240 + a / 64 / 64 / 64, 128 + (a / 64 / 64) % 64, 128 + (a / 64) % 64, 128 + a % 64] := by rw [HE.out]; simp only [List.cons.injEq, and_true]; omega
      have hr := put_row w (Spec.enc a) (enc_len a).2
      refine ⟨.slice (some ⟨w.heap.size, 0, none⟩) 4 4, rfl, ?_, (Below.refl _ _).alloc (Nat.le_refl _) _⟩
      rw [hl] at hr ⊢
      exact hr

theorem rput_any (a : Int) (w : World) (ha : Spec.good a = true) : Calls Try.prog 10 #[.int .i64 a] w (RPutTo a w) := by
  rw [Spec.good_iff] at ha
  rcases (by omega : a < 128 ∨ (128 ≤ a ∧ a < 2048) ∨ (2048 ≤ a ∧ a < 65536) ∨ 65536 ≤ a) with h | ⟨h, h'⟩ | ⟨h, h'⟩ | h
  · exact rput_1 a w (by omega) h
  · exact rput_2 a w h h'
  · exact rput_3 a w h h'
  · exact rput_4 a w h (by omega)
end Go.Proofs.Ytiboikbccmfedaa
