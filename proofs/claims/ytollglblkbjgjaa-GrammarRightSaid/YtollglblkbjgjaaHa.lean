/- Contracts of the reference's Good, width, Put, value and One. Conditions: the numbers are of their kinds, the rows read in memory. -/
import Derived.Test.YtollglblkbjgjaaGz
import Derived.Test.YtollglblkbjgjaaSpec
import Derived.OpenShut
import Derived.Outline
import Derived.ArgAppend
import Derived.Laws.BitsLemmas
import Derived.Laws.MakeOwn
import Derived.Laws.BytesArg
import Derived.RegionCalls
import Derived.Deep.RegionWith
import Derived.BigRegion
namespace Go.Proofs.Ytollglblkbjgjaa
open Go.RowKit

theorem enc_len (x : Int) : 1 ≤ (Spec.enc x).length ∧ (Spec.enc x).length ≤ 4 := by unfold Spec.enc; split <;> (try split) <;> (try split) <;> simp
def OneTo (l : List Int) (w : World) (e : Ending) (w' : World) : Prop := e = .returned (.tuple #[.int .i64 (Spec.one l).1, .int .i64 (Spec.one l).2]) ∧ Below w.heap.size w w'
theorem ret_two {k k' : IntKind} {a a' b b' : Int} (h : a = a') (h' : b = b') : Ending.returned (.tuple #[.int k a, .int k' b]) = .returned (.tuple #[.int k a', .int k' b']) := by rw [h, h']
def AllGood (l : List Int) : Prop := ∀ x ∈ l, Spec.good x = true
theorem rgood_any (a : Int) (w : World) : Calls Try.prog 74 #[.int .i64 a] w fun e w' => e = .returned (.bool (Spec.good a)) ∧ w = w' := by
 by_cases h1 : 0 ≤ a <;> by_cases h2 : a < 1114112 <;> by_cases h3 : a < 55296 <;> by_cases h4 : 57343 < a
 all_goals first | (exfalso; omega) | skip
 all_goals
  go_enter Try.func74, Try.ntmps74
  go_wp2
  go_ret
  refine ⟨?_, rfl⟩
  congr 2
  unfold Spec.good
  simp
  try omega

theorem ret_one {k : IntKind} {a a' : Int} (h : a = a') : Ending.returned (.int k a) = .returned (.int k a') := by rw [h]
def WidthTo (a : Int) (w : World) (e : Ending) (w' : World) : Prop := e = .returned (.int .i64 ((Spec.enc a).length : Int)) ∧ w = w'
theorem width_any (a : Int) (w : World) : Calls Try.prog 75 #[.int .i64 a] w (WidthTo a w) := by
 rcases (by omega : a < 128 ∨ (128 ≤ a ∧ a < 2048) ∨ (2048 ≤ a ∧ a < 65536) ∨ 65536 ≤ a) with h | ⟨h, h'⟩ | ⟨h, h'⟩ | h
 ·go_enter Try.func75, Try.ntmps75
  go_wp2
  go_ret
  exact ⟨ret_one (by unfold Spec.enc; rw [if_pos h]; rfl), rfl⟩
 ·go_enter Try.func75, Try.ntmps75
  go_wp2
  go_ret
  exact ⟨ret_one (by unfold Spec.enc; rw [if_neg (by omega), if_pos (by omega)]; rfl), rfl⟩
 ·go_enter Try.func75, Try.ntmps75
  go_wp2
  go_ret
  exact ⟨ret_one (by unfold Spec.enc; rw [if_neg (by omega), if_neg (by omega), if_pos (by omega)]; rfl), rfl⟩
 ·go_enter Try.func75, Try.ntmps75
  go_wp2
  go_ret
  exact ⟨ret_one (by unfold Spec.enc; rw [if_neg (by omega), if_neg (by omega), if_neg (by omega)]; rfl), rfl⟩

/-- what the reference's Put comes to -/
def RPutTo (a : Int) (w : World) (e : Ending) (w' : World) : Prop := ∃ v, e = .returned v ∧ w'.ownsRow w.heap.size 5 1 v (Spec.enc a).length (nums .u8 (Spec.enc a)) ∧ Below w.heap.size w w'

theorem put_row (w : World) (l : List Int) (hl : l.length ≤ 4) : (w.alloc (.cells (nums .u8 l).toArray 5)).ownsRow w.heap.size 5 1 (.slice (some ⟨w.heap.size, 0, none⟩) l.length l.length) l.length (nums .u8 l) := by
 have := World.ownsRow_lit (base := w.heap.size) (e := 5) (size := 1) w (nums .u8 l).toArray l.length (Nat.le_refl _) (by unfold maxLen; omega) (by simp [nums])
 simpa using this

set_option maxHeartbeats 1000000 in
theorem rput_1 (a : Int) (w : World) (h0 : 0 ≤ a) (h1 : a < 128) : Calls Try.prog 76 #[.int .i64 a] w (RPutTo a w) := by
 have he : Spec.enc a = [a] := by unfold Spec.enc; rw [if_pos h1]
 have HE := Lib.hid he
 clear he
 have hmk : ∀ W : World, (Instr.makeSlice 95 (.int .i64 1) (.int .i64 1)).run Try.prog W = .ok (.slice (some ⟨W.heap.size, 0, none⟩) 1 1) (W.alloc (.cells #[.int .u8 0] 5)) := fun _ => by kernel_rfl
 go_enter Try.func76, Try.ntmps76
 go_wp2_with fail
 refine (width_any a _).mono ?_
 rintro e w1 ⟨rfl, rfl⟩
 rw [show ((Spec.enc a).length : Int) = 1 by rw [HE.out]; rfl]
 go_wp2
 go_loopw [0, 5] (fun n i wr => (i = .int .i64 0 ∧ n = .int .i64 a ∧ wr = w.alloc (.cells #[.int .u8 0] 5))) (fun _ i _ => (intOf i).toNat)
 case atStart => exact ⟨rfl, rfl, rfl⟩
 case round =>
  obtain ⟨rfl, rfl, rfl⟩ := hrel
  go_wp2
  go_ret
  have hl : Spec.enc a = [a] := by rw [HE.out]
  have hr := put_row w (Spec.enc a) (enc_len a).2
  refine ⟨.slice (some ⟨w.heap.size, 0, none⟩) 1 1, rfl, ?_, (Below.refl _ _).alloc (Nat.le_refl _) _⟩
  rw [hl] at hr ⊢
  exact hr

set_option maxHeartbeats 1000000 in
theorem rput_2 (a : Int) (w : World) (h0 : 128 ≤ a) (h1 : a < 2048) : Calls Try.prog 76 #[.int .i64 a] w (RPutTo a w) := by
 have he : Spec.enc a = [192 + a / 64, 128 + a % 64] := by unfold Spec.enc; rw [if_neg (by omega), if_pos h1]
 have HE := Lib.hid he
 clear he
 have hmk : ∀ W : World, (Instr.makeSlice 95 (.int .i64 2) (.int .i64 2)).run Try.prog W = .ok (.slice (some ⟨W.heap.size, 0, none⟩) 2 2) (W.alloc (.cells #[.int .u8 0, .int .u8 0] 5)) := fun _ => by kernel_rfl
 go_enter Try.func76, Try.ntmps76
 go_wp2_with fail
 refine (width_any a _).mono ?_
 rintro e w1 ⟨rfl, rfl⟩
 rw [show ((Spec.enc a).length : Int) = 2 by rw [HE.out]; rfl]
 go_wp2
 go_loopw [0, 5] (fun n i wr => (i = .int .i64 1 ∧ n = .int .i64 a ∧ wr = w.alloc (.cells #[.int .u8 0, .int .u8 0] 5)) ∨ (i = .int .i64 0 ∧ n = .int .i64 (a / 64) ∧ wr = w.alloc (.cells #[.int .u8 0, .int .u8 (128 + a % 64)] 5))) (fun _ i _ => (intOf i).toNat)
 case atStart => exact .inl ⟨rfl, rfl, rfl⟩
 case round =>
  rcases hrel with ⟨rfl, rfl, rfl⟩ | ⟨rfl, rfl, rfl⟩
  ·go_wp2
   go_roundw
   case rel => simp
   case measure => simp [intOf]
  ·go_wp2
   go_ret
   have hl : Spec.enc a = [192 + a / 64, 128 + a % 64] := by rw [HE.out]
   have hr := put_row w (Spec.enc a) (enc_len a).2
   refine ⟨.slice (some ⟨w.heap.size, 0, none⟩) 2 2, rfl, ?_, (Below.refl _ _).alloc (Nat.le_refl _) _⟩
   rw [hl] at hr ⊢
   exact hr

set_option maxHeartbeats 1000000 in
theorem rput_3 (a : Int) (w : World) (h0 : 2048 ≤ a) (h1 : a < 65536) : Calls Try.prog 76 #[.int .i64 a] w (RPutTo a w) := by
 have he : Spec.enc a = [224 + a / 4096, 128 + a / 64 % 64, 128 + a % 64] := by unfold Spec.enc; rw [if_neg (by omega), if_neg (by omega), if_pos h1]
 have HE := Lib.hid he
 clear he
 have hmk : ∀ W : World, (Instr.makeSlice 95 (.int .i64 3) (.int .i64 3)).run Try.prog W = .ok (.slice (some ⟨W.heap.size, 0, none⟩) 3 3) (W.alloc (.cells #[.int .u8 0, .int .u8 0, .int .u8 0] 5)) := fun _ => by kernel_rfl
 go_enter Try.func76, Try.ntmps76
 go_wp2_with fail
 refine (width_any a _).mono ?_
 rintro e w1 ⟨rfl, rfl⟩
 rw [show ((Spec.enc a).length : Int) = 3 by rw [HE.out]; rfl]
 go_wp2
 go_loopw [0, 5] (fun n i wr => (i = .int .i64 2 ∧ n = .int .i64 a ∧ wr = w.alloc (.cells #[.int .u8 0, .int .u8 0, .int .u8 0] 5)) ∨ (i = .int .i64 1 ∧ n = .int .i64 (a / 64) ∧ wr = w.alloc (.cells #[.int .u8 0, .int .u8 0, .int .u8 (128 + a % 64)] 5)) ∨ (i = .int .i64 0 ∧ n = .int .i64 (a / 64 / 64) ∧ wr = w.alloc (.cells #[.int .u8 0, .int .u8 (128 + (a / 64) % 64), .int .u8 (128 + a % 64)] 5))) (fun _ i _ => (intOf i).toNat)
 case atStart => exact .inl ⟨rfl, rfl, rfl⟩
 case round =>
  rcases hrel with ⟨rfl, rfl, rfl⟩ | ⟨rfl, rfl, rfl⟩ | ⟨rfl, rfl, rfl⟩
  ·go_wp2
   go_roundw
   case rel => simp
   case measure => simp [intOf]
  ·go_wp2
   go_roundw
   case rel => simp
   case measure => simp [intOf]
  ·go_wp2
   go_ret
   have hl : Spec.enc a = [224 + a / 64 / 64, 128 + (a / 64) % 64, 128 + a % 64] := by rw [HE.out]; simp only [List.cons.injEq, and_true]; omega
   have hr := put_row w (Spec.enc a) (enc_len a).2
   refine ⟨.slice (some ⟨w.heap.size, 0, none⟩) 3 3, rfl, ?_, (Below.refl _ _).alloc (Nat.le_refl _) _⟩
   rw [hl] at hr ⊢
   exact hr

set_option maxHeartbeats 1000000 in
theorem rput_4 (a : Int) (w : World) (h0 : 65536 ≤ a) (h1 : a < 1114112) : Calls Try.prog 76 #[.int .i64 a] w (RPutTo a w) := by
 have he : Spec.enc a = [240 + a / 262144, 128 + a / 4096 % 64, 128 + a / 64 % 64, 128 + a % 64] := by unfold Spec.enc; rw [if_neg (by omega), if_neg (by omega), if_neg (by omega)]
 have HE := Lib.hid he
 clear he
 have hmk : ∀ W : World, (Instr.makeSlice 95 (.int .i64 4) (.int .i64 4)).run Try.prog W = .ok (.slice (some ⟨W.heap.size, 0, none⟩) 4 4) (W.alloc (.cells #[.int .u8 0, .int .u8 0, .int .u8 0, .int .u8 0] 5)) := fun _ => by kernel_rfl
 go_enter Try.func76, Try.ntmps76
 go_wp2_with fail
 refine (width_any a _).mono ?_
 rintro e w1 ⟨rfl, rfl⟩
 rw [show ((Spec.enc a).length : Int) = 4 by rw [HE.out]; rfl]
 go_wp2
 go_loopw [0, 5] (fun n i wr => (i = .int .i64 3 ∧ n = .int .i64 a ∧ wr = w.alloc (.cells #[.int .u8 0, .int .u8 0, .int .u8 0, .int .u8 0] 5)) ∨ (i = .int .i64 2 ∧ n = .int .i64 (a / 64) ∧ wr = w.alloc (.cells #[.int .u8 0, .int .u8 0, .int .u8 0, .int .u8 (128 + a % 64)] 5)) ∨ (i = .int .i64 1 ∧ n = .int .i64 (a / 64 / 64) ∧ wr = w.alloc (.cells #[.int .u8 0, .int .u8 0, .int .u8 (128 + (a / 64) % 64), .int .u8 (128 + a % 64)] 5)) ∨ (i = .int .i64 0 ∧ n = .int .i64 (a / 64 / 64 / 64) ∧ wr = w.alloc (.cells #[.int .u8 0, .int .u8 (128 + (a / 64 / 64) % 64), .int .u8 (128 + (a / 64) % 64), .int .u8 (128 + a % 64)] 5))) (fun _ i _ => (intOf i).toNat)
 case atStart => exact .inl ⟨rfl, rfl, rfl⟩
 case round =>
  rcases hrel with ⟨rfl, rfl, rfl⟩ | ⟨rfl, rfl, rfl⟩ | ⟨rfl, rfl, rfl⟩ | ⟨rfl, rfl, rfl⟩
  ·go_wp2
   go_roundw
   case rel => simp
   case measure => simp [intOf]
  ·go_wp2
   go_roundw
   case rel => simp
   case measure => simp [intOf]
  ·go_wp2
   go_roundw
   case rel => simp
   case measure => simp [intOf]
  ·go_wp2
   go_ret
   have hl : Spec.enc a = [240 + a / 64 / 64 / 64, 128 + (a / 64 / 64) % 64, 128 + (a / 64) % 64, 128 + a % 64] := by rw [HE.out]; simp only [List.cons.injEq, and_true]; omega
   have hr := put_row w (Spec.enc a) (enc_len a).2
   refine ⟨.slice (some ⟨w.heap.size, 0, none⟩) 4 4, rfl, ?_, (Below.refl _ _).alloc (Nat.le_refl _) _⟩
   rw [hl] at hr ⊢
   exact hr

theorem rput_any (a : Int) (w : World) (ha : Spec.good a = true) : Calls Try.prog 76 #[.int .i64 a] w (RPutTo a w) := by
 rw [Spec.good_iff] at ha
 rcases (by omega : a < 128 ∨ (128 ≤ a ∧ a < 2048) ∨ (2048 ≤ a ∧ a < 65536) ∨ 65536 ≤ a) with h | ⟨h, h'⟩ | ⟨h, h'⟩ | h
 ·exact rput_1 a w (by omega) h
 ·exact rput_2 a w h h'
 ·exact rput_3 a w h h'
 ·exact rput_4 a w h (by omega)
theorem own_form_pos {w : World} {base n : Nat} {e : TypeId} {v : Value} {xs : List Value} (h : w.ownsRow base e 1 v n xs) (hn : 0 < n) : ∃ g cap, v = .slice (some ⟨g, 0, none⟩) n cap ∧ g < w.heap.size ∧ ∀ j u, xs[j]? = some u → w.cell? ((⟨g, 0, none⟩ : Addr).add j) = some u := by
 obtain ⟨g, cap, rfl, _, hlt⟩ := h.form hn
 exact ⟨g, cap, rfl, hlt, fun j u hu => h.cells rfl j u hu⟩

/-- the number that so many bytes are -/
def valueOf : List Int → Int
 | [] => 0
 | c :: t => t.foldl (fun n d => n * 64 + d - 128) (if t.length = 1 then c - 192 else if t.length = 2 then c - 224 else if t.length = 3 then c - 240 else c)

def ValueTo (l : List Int) (w : World) (e : Ending) (w' : World) : Prop := e = .returned (.int .i64 (valueOf l)) ∧ w = w'

set_option maxRecDepth 100000 in
set_option maxHeartbeats 2000000 in
theorem value_any (A : Option Addr) (n c : Nat) (l : List Int) (w : World) (hr : RowAt .u8 w A l) (hl : l.length = n) (hn1 : 1 ≤ n) (hn4 : n ≤ 4) (hb : Spec.Bytes l) :
  Calls Try.prog 73 #[.slice A n c] w (ValueTo l w) := by
 obtain ⟨b, off, rfl, hcell⟩ := hr.2 (by omega)
 match l, hl, hn4, hn1 with
 | [a], hl, _, _ =>
  obtain rfl : n = 1 := by simpa using hl.symm
  have ha := hb a (by simp)
  have c0 : w.cell? ⟨b, off, none⟩ = some (.int .u8 a) := by simpa using hcell 0 (by simp)
  clear hcell hr hb hl
  go_enter Try.func73, Try.ntmps73
  go_wp2
  go_loop [3, 4] (fun v i => (i = .int .i64 1 ∧ v = .int .i64 a)) (fun _ i => 1 - (intOf i).toNat)
  case atStart => exact ⟨rfl, rfl⟩
  case round =>
   obtain ⟨rfl, rfl⟩ := hrel
   go_wp2
   go_ret
   exact ⟨rfl, rfl⟩
 | [a, d], hl, _, _ =>
  obtain rfl : n = 2 := by simpa using hl.symm
  have ha := hb a (by simp)
  have hd := hb d (by simp)
  have c0 : w.cell? ⟨b, off, none⟩ = some (.int .u8 a) := by simpa using hcell 0 (by simp)
  have c1 : w.cell? ⟨b, off + 1, none⟩ = some (.int .u8 d) := by simpa using hcell 1 (by simp)
  clear hcell hr hb hl
  go_enter Try.func73, Try.ntmps73
  go_wp2
  go_loop [3, 4] (fun v i => (i = .int .i64 1 ∧ v = .int .i64 (a - 192)) ∨ (i = .int .i64 2 ∧ v = .int .i64 ((a - 192) * 64 + d - 128))) (fun _ i => 2 - (intOf i).toNat)
  case atStart => exact .inl ⟨rfl, rfl⟩
  case round =>
   rcases hrel with ⟨rfl, rfl⟩ | ⟨rfl, rfl⟩
   ·go_wp2
    go_round
    case rel => simp
    case measure => simp [intOf]
   ·go_wp2
    go_ret
    exact ⟨rfl, rfl⟩
 | [a, d, f], hl, _, _ =>
  obtain rfl : n = 3 := by simpa using hl.symm
  have ha := hb a (by simp)
  have hd := hb d (by simp)
  have hf := hb f (by simp)
  have c0 : w.cell? ⟨b, off, none⟩ = some (.int .u8 a) := by simpa using hcell 0 (by simp)
  have c1 : w.cell? ⟨b, off + 1, none⟩ = some (.int .u8 d) := by simpa using hcell 1 (by simp)
  have c2 : w.cell? ⟨b, off + 2, none⟩ = some (.int .u8 f) := by simpa using hcell 2 (by simp)
  clear hcell hr hb hl
  go_enter Try.func73, Try.ntmps73
  go_wp2
  go_loop [3, 4] (fun v i => (i = .int .i64 1 ∧ v = .int .i64 (a - 224)) ∨ (i = .int .i64 2 ∧ v = .int .i64 ((a - 224) * 64 + d - 128)) ∨ (i = .int .i64 3 ∧ v = .int .i64 (((a - 224) * 64 + d - 128) * 64 + f - 128))) (fun _ i => 3 - (intOf i).toNat)
  case atStart => exact .inl ⟨rfl, rfl⟩
  case round =>
   rcases hrel with ⟨rfl, rfl⟩ | ⟨rfl, rfl⟩ | ⟨rfl, rfl⟩
   ·go_wp2
    go_round
    case rel => simp
    case measure => simp [intOf]
   ·go_wp2
    go_round
    case rel => simp
    case measure => simp [intOf]
   ·go_wp2
    go_ret
    exact ⟨rfl, rfl⟩
 | [a, d, f, g], hl, _, _ =>
  obtain rfl : n = 4 := by simpa using hl.symm
  have ha := hb a (by simp)
  have hd := hb d (by simp)
  have hf := hb f (by simp)
  have hg := hb g (by simp)
  have c0 : w.cell? ⟨b, off, none⟩ = some (.int .u8 a) := by simpa using hcell 0 (by simp)
  have c1 : w.cell? ⟨b, off + 1, none⟩ = some (.int .u8 d) := by simpa using hcell 1 (by simp)
  have c2 : w.cell? ⟨b, off + 2, none⟩ = some (.int .u8 f) := by simpa using hcell 2 (by simp)
  have c3 : w.cell? ⟨b, off + 3, none⟩ = some (.int .u8 g) := by simpa using hcell 3 (by simp)
  clear hcell hr hb hl
  go_enter Try.func73, Try.ntmps73
  go_wp2
  go_loop [3, 4] (fun v i => (i = .int .i64 1 ∧ v = .int .i64 (a - 240)) ∨ (i = .int .i64 2 ∧ v = .int .i64 ((a - 240) * 64 + d - 128)) ∨ (i = .int .i64 3 ∧ v = .int .i64 (((a - 240) * 64 + d - 128) * 64 + f - 128)) ∨ (i = .int .i64 4 ∧ v = .int .i64 ((((a - 240) * 64 + d - 128) * 64 + f - 128) * 64 + g - 128))) (fun _ i => 4 - (intOf i).toNat)
  case atStart => exact .inl ⟨rfl, rfl⟩
  case round =>
   rcases hrel with ⟨rfl, rfl⟩ | ⟨rfl, rfl⟩ | ⟨rfl, rfl⟩ | ⟨rfl, rfl⟩
   ·go_wp2
    go_round
    case rel => simp
    case measure => simp [intOf]
   ·go_wp2
    go_round
    case rel => simp
    case measure => simp [intOf]
   ·go_wp2
    go_round
    case rel => simp
    case measure => simp [intOf]
   ·go_wp2
    go_ret
    exact ⟨rfl, rfl⟩

/-- the value of a sign's own bytes -/
theorem valueOf_enc (m : Int) (h : Spec.good m = true) : valueOf (Spec.enc m) = m := by
 rcases Spec.enc_cases h (l := Spec.enc m ++ []) rfl with ⟨_, _, _, ke⟩ | ⟨c, d, _, _, _, _, hm, _, _, _, ke⟩ | ⟨c, d, f, _, _, _, _, _, _, hm, _, _, _, ke⟩ | ⟨c, d, f, g, _, _, _, _, _, _, _, _, hm, _, _, ke⟩ <;> rw [ke] <;> simp [valueOf] <;> omega
/-- bytes as a string -/
theorem conv_row {P : Program} {w : World} {n c : Nat} {src dst e : TypeId} {A : Option Addr} {xs : List Int} (hs : P.underlying src = some (.slice e)) (he : P.underlying e = some (.int .u8)) (hd : P.underlying dst = some .string)
  (h : RowAt .u8 w A xs) (hl : xs.length = n) (hA : A = none → n = 0 ∧ c = 0) (hp : 0 < n) : (convert src dst (.slice A n c)).run P w = .ok (.string (strOfNums xs)) w := by
 obtain ⟨b, off, rfl, hc⟩ := h.2 (by omega)
 exact run_convert_bytes_arg w src e hs he b off n c xs hl (fun i hi => hc i (by omega)) dst hd

theorem conv_own {P : Program} {w : World} {base n : Nat} {e' src dst e : TypeId} {g c : Nat} {xs : List Int} (hs : P.underlying src = some (.slice e)) (he : P.underlying e = some (.int .u8)) (hd : P.underlying dst = some .string)
  (h : w.ownsRow base e' 1 (.slice (some ⟨g, 0, none⟩) n c) n (nums .u8 xs)) (hp : 0 < n) : (convert src dst (.slice (some ⟨g, 0, none⟩) n c)).run P w = .ok (.string (strOfNums xs)) w := by
 obtain ⟨A, c', e1, _, _, hl, _, hr⟩ := own_row h
 cases e1
 exact conv_row hs he hd hr hl (fun h => by simp at h) hp

theorem enc_bytes (v : Int) (h : Spec.good v = true) : Spec.Bytes (Spec.enc v) := by
 rcases Spec.enc_cases h (l := Spec.enc v ++ []) rfl with ⟨_, _, _, ke⟩ | ⟨c, d, _, _, _, _, hm, _, _, _, ke⟩ | ⟨c, d, f, _, _, _, _, _, _, hm, _, _, _, ke⟩ | ⟨c, d, f, g, _, _, _, _, _, _, _, _, hm, _, _, ke⟩ <;> rw [ke] <;> intro x hx <;> simp at hx <;> omega

theorem str_inj {xs ys : List Int} (hx : Spec.Bytes xs) (hy : Spec.Bytes ys) (h : (strOfNums xs).toList = (strOfNums ys).toList) : xs = ys := by
 have h1 : xs.map (fun n => UInt8.ofNat n.toNat) = ys.map (fun n => UInt8.ofNat n.toNat) := by
  rw [← strOfNums_data, ← strOfNums_data]
  simpa [ByteArray.toList_eq] using h
 have h2 : ∀ (l : List Int), Spec.Bytes l → (l.map (fun n => UInt8.ofNat n.toNat)).map (fun b => ((b.toNat : Nat) : Int)) = l := by
  intro l hl
  rw [List.map_map]
  refine (List.map_congr_left fun x hx => ?_).trans (List.map_id l)
  have := hl x hx
  simp [UInt8.toNat_ofNat']
  omega
 rw [← h2 xs hx, ← h2 ys hy, h1]

theorem one_is {l : List Int} {p : Int × Int} (hb : Spec.Bytes l) (h : Spec.IsOne l p) : Spec.one l = p := by
 obtain ⟨h1, h2, r, h3⟩ := h
 rcases Spec.one_spec l hb with ⟨k1, k2, r', k3⟩ | ⟨_, k⟩
 ·obtain ⟨e, _⟩ := Spec.enc_unique k1 h1 (k3.symm.trans h3)
  exact Prod.ext e (by rw [k2, h2, e])
 ·exact absurd ⟨r, h3⟩ (k _ h1)
theorem one_none {l : List Int} (hb : Spec.Bytes l) (h : Spec.NoOne l) : Spec.one l = (0, 0) := by
 rcases Spec.one_spec l hb with ⟨k1, _, k3⟩ | ⟨k, _⟩
 ·exact absurd k3 (h _ k1)
 ·exact k

/-- no sign of fewer bytes stands at the head -/
def NoShort (l : List Int) (k : Nat) : Prop := ∀ m r, Spec.good m = true → l = Spec.enc m ++ r → k ≤ (Spec.enc m).length

theorem short_next {l : List Int} {k : Nat} (h : NoShort l k) (hn : ¬ (Spec.good (valueOf (l.take k)) = true ∧ (Spec.enc (valueOf (l.take k))).length = k ∧ Spec.enc (valueOf (l.take k)) = l.take k)) : NoShort l (k + 1) := by
 intro m r hm hl
 have h1 := h m r hm hl
 rcases Nat.lt_or_ge k (Spec.enc m).length with h2 | h2
 ·exact h2
 ·exfalso
  have hk : (Spec.enc m).length = k := by omega
  have ht : l.take k = Spec.enc m := by rw [hl, ← hk, List.take_left]
  rw [ht, valueOf_enc m hm] at hn
  exact hn ⟨hm, hk, rfl⟩

set_option maxRecDepth 100000 in
set_option maxHeartbeats 4000000 in
theorem rone_any (A : Option Addr) (n c : Nat) (l : List Int) (w : World) (hr : RowAt .u8 w A l) (hl : l.length = n) (hn : n ≤ c) (hb : Spec.Bytes l) :
  Calls Try.prog 63 #[.slice A n c] w (OneTo l w) := by
 have HR := Lib.hid hr
 have HL := Lib.hid hl
 have HBy := Lib.hid hb
 have hn63 : n ≤ 9223372036854775807 := by rw [← hl]; exact hr.1
 clear hr hl hb
 go_enter Try.func63, Try.ntmps63
 go_wp2
 go_loopw [4] (fun i wr => ∃ k : Nat, 1 ≤ k ∧ k ≤ 5 ∧ i = .int .i64 k ∧ NoShort l k ∧ Below w.heap.size w wr) (fun i _ => 5 - (intOf i).toNat)
 case atStart => exact ⟨1, by omega, by omega, rfl, fun m r _ _ => (enc_len m).1, Below.refl _ _⟩
 case round =>
  obtain ⟨k, hk1, hk5, rfl, hno, hbel⟩ := hrel
  have HN := Lib.hid hno
  have HB := Lib.hid hbel
  clear hno hbel
  by_cases hlt : k ≤ 4 ∧ k ≤ n
  ·obtain ⟨hk4, hkn⟩ := hlt
   have hbt : Spec.Bytes (l.take k) := fun x hx => HBy.out x (List.mem_of_mem_take hx)
   have hrt := Lib.hid ((HR.out.take k).below HB.out)
   have hlt := Lib.hid (show (l.take k).length = k by rw [List.length_take, HL.out]; omega)
   have HBt := Lib.hid hbt
   clear hbt
   go_wp2_with fail
   refine (value_any _ _ _ _ _ hrt.out hlt.out hk1 hk4 HBt.out).mono ?_
   rintro e w1 ⟨rfl, rfl⟩
   generalize hv : valueOf (l.take k) = v at *
   have HV := Lib.hid hv
   clear hv
   go_wp2_with fail
   obtain ⟨b, off, rfl, _⟩ := HR.out.2 (by rw [HL.out]; omega)
   by_cases hg : Spec.good v = true
   ·by_cases hw : (Spec.enc v).length = k
    ·have hconvA := Lib.hid (fun (W : World) (hW : Below w.heap.size w W) => conv_row (P := Try.prog) (src := 95) (dst := 9) (e := 5) (n := k) (c := c) Try.underlying95 Try.underlying5 Try.underlying9 ((HR.out.take k).below hW) hlt.out (fun h => by simp at h) hk1)
     have hcd := hconvA.out wr.drew HB.out.drew
     have hbE : Spec.Bytes (Spec.enc v) := enc_bytes v hg
     by_cases hE : Spec.enc v = l.take k
     ·have hbt : ((strOfNums (Spec.enc v)).toList == (strOfNums (l.take k)).toList) = true := by rw [hE]; simp
      have HE := Lib.hid hE
      clear hE
      generalize hsv : strOfNums (l.take k) = sv at *
      generalize hsu : strOfNums (Spec.enc v) = su at *
      have HSU := Lib.hid hsu
      clear hsv hsu
      go_region_with
       (first | (go_at_call 74; refine (rgood_any v _).mono ?_; rintro e w2 ⟨rfl, rfl⟩; rw [hg]) | (go_at_call 75; refine (width_any v _).mono ?_; rintro e w2 ⟨rfl, rfl⟩; rw [hw]) | (go_at_call 76; refine (rput_any v _ hg).mono ?_; rintro e w3 ⟨pv, rfl, hown3, hb3⟩; obtain ⟨g, cap, rfl, hgl, hcs⟩ := own_form_pos hown3 (by rw [hw]; omega); have hcd3 := hconvA.out w3 (below_then HB.out.drew HB.out.drew.size hb3); have hcp := conv_own (P := Try.prog) (src := 95) (dst := 9) Try.underlying95 Try.underlying5 Try.underlying9 hown3 (by rw [hw]; omega); rw [hw, HSU.out] at hcp))
      all_goals
       have hb5 := below_then HB.out.drew HB.out.drew.size hb3
       have HB5 := Lib.hid hb5
       have hone := one_is (p := (v, (k : Int))) HBy.out ⟨hg, by rw [hw], l.drop k, by rw [HE.out, List.take_append_drop]⟩
       have HON := Lib.hid hone
       clear hone
       clear hb5 hb3 hown3 hcp hcd3 hcs
       go_wp2
       go_ret2
       refine ⟨?_, HB5.out⟩
       rw [HON.out]
       rfl
     ·have hbt : ((strOfNums (Spec.enc v)).toList == (strOfNums (l.take k)).toList) = false := by simpa using fun h => hE (str_inj hbE HBt.out h)
      have HE := Lib.hid hE
      clear hE
      generalize hsv : strOfNums (l.take k) = sv at *
      generalize hsu : strOfNums (Spec.enc v) = su at *
      have HSU := Lib.hid hsu
      clear hsv hsu
      go_region_with
       (first | (go_at_call 74; refine (rgood_any v _).mono ?_; rintro e w2 ⟨rfl, rfl⟩; rw [hg]) | (go_at_call 75; refine (width_any v _).mono ?_; rintro e w2 ⟨rfl, rfl⟩; rw [hw]) | (go_at_call 76; refine (rput_any v _ hg).mono ?_; rintro e w3 ⟨pv, rfl, hown3, hb3⟩; obtain ⟨g, cap, rfl, hgl, hcs⟩ := own_form_pos hown3 (by rw [hw]; omega); have hcd3 := hconvA.out w3 (below_then HB.out.drew HB.out.drew.size hb3); have hcp := conv_own (P := Try.prog) (src := 95) (dst := 9) Try.underlying95 Try.underlying5 Try.underlying9 hown3 (by rw [hw]; omega); rw [hw, HSU.out] at hcp))
      all_goals
       have hb5 := below_then HB.out.drew HB.out.drew.size hb3
       have HB5 := Lib.hid hb5
       have hnx := short_next HN.out (fun h => HE.out (by rw [HV.out] at h; exact h.2.2))
       have HNX := Lib.hid hnx
       clear hnx
       clear hb5 hb3 hown3 hcp hcd3 hcs
       go_wp2
       go_roundw
       case rel => exact ⟨k + 1, by omega, by omega, by go_num, HNX.out, HB5.out⟩
       case measure => simp [intOf]; omega
    ·have hw' : (((Spec.enc v).length : Int) == k) = false := by simp; omega
     go_quiet (first | (go_at_call 74; exact Calls.quiet_of_same ((rgood_any v _).mono (fun e w' ⟨h1, h2⟩ => ⟨by rw [h1, hg], h2.symm⟩))) | (go_at_call 75; exact Calls.quiet_of_same ((width_any v _).mono (fun e w' ⟨h1, h2⟩ => ⟨h1, h2.symm⟩))))
     have hnx := short_next HN.out (fun h => hw (by rw [HV.out] at h; exact h.2.1))
     have HNX := Lib.hid hnx
     clear hnx
     go_wp2
     go_roundw
     case rel => exact ⟨k + 1, by omega, by omega, by go_num, HNX.out, below_drewN HB.out _⟩
     case measure => simp [intOf]; omega
   ·have hg' : Spec.good v = false := by simpa using hg
    go_quiet ((go_at_call 74; exact Calls.quiet_of_same ((rgood_any v _).mono (fun e w' ⟨h1, h2⟩ => ⟨by rw [h1, hg'], h2.symm⟩))))
    have hnx := short_next HN.out (fun h => hg (by rw [HV.out] at h; exact h.1))
    have HNX := Lib.hid hnx
    clear hnx
    go_wp2
    go_roundw
    case rel => exact ⟨k + 1, by omega, by omega, by go_num, HNX.out, below_drewN HB.out _⟩
    case measure => simp [intOf]; omega
  ·have hnone : Spec.NoOne l := by
    intro m hm ⟨r, hlm⟩
    have h1 := HN.out m r hm hlm
    have h2 := (enc_len m).2
    have h3 : (Spec.enc m).length ≤ n := by rw [← HL.out, hlm, List.length_append]; omega
    omega
   have hone := Lib.hid (one_none HBy.out hnone)
   clear hnone
   rcases (by omega : k = 5 ∨ (k ≤ 4 ∧ n < k)) with h | ⟨h, h'⟩
   ·subst h
    go_wp2
    go_ret2
    refine ⟨?_, HB.out⟩
    rw [hone.out]
    rfl
   ·go_wp2
    go_ret2
    refine ⟨?_, HB.out⟩
    rw [hone.out]
    rfl
end Go.Proofs.Ytollglblkbjgjaa
