/- Contracts of the reference's Word and Fixed. Conditions: the text is no longer than a million bytes; the words read in memory. -/
import Derived.Test.YtollglblkbjgjaaHf
namespace Go.Proofs.Ytollglblkbjgjaa
open Go.RowKit

/-- what a word of letters and digits is read as -/
def NameTo (s : ByteArray) (i : Nat) (w : World) (e : Ending) (w' : World) : Prop := Below w.heap.size w w' ∧
 ∃ (x : ByteArray) (to : Nat), e = .returned (.tuple #[.agg #[.int .i64 3, .string x, .slice none 0 0, .slice none 0 0, .int .i64 (i : Int)], .int .i64 (to : Int)]) ∧ x.size ≤ s.size ∧ i < to ∧ to ≤ s.size
set_option maxRecDepth 100000 in
set_option maxHeartbeats 4000000 in
theorem word_any (s : ByteArray) (i : Nat) (w : World) (hs : s.size ≤ 1000000) (hi : i < s.size) : Calls Try.prog 43 #[.string s, .int .i64 (i : Int)] w (NameTo s i w) := by
 have hw1 : IntKind.i64.wrap ((i : Int) + 1) = ((i + 1 : Nat) : Int) := (wraps_i64 _ (by omega) (by omega)).trans (by omega)
 obtain ⟨i1, hi1⟩ : ∃ i1, i + 1 = i1 := ⟨_, rfl⟩
 rw [hi1] at hw1
 have hi1l : i < i1 ∧ i1 ≤ s.size := by omega
 have HD := Lib.hid (fun (c : Int) (w : World) => digit_any c w)
 have HL := Lib.hid (fun (c : Int) (w : World) => letter_any c w)
 clear hi1
 go_enter Try.func43, Try.ntmps43
 go_wp2
 go_loopw [6] (fun q wr => ∃ (k : Nat), q = .int .i64 k ∧ i1 ≤ k ∧ k ≤ s.size ∧ Below w.heap.size w wr ∧ wr.heap[w.heap.size]? = some (.cells #[.int .i64 0, .string ⟨#[]⟩, .slice none 0 0, .slice none 0 0, .int .i64 0] 43 (0, 0))) (fun q _ => s.size - (intOf q).toNat)
 case atStart => exact ⟨i1, rfl, Nat.le_refl _, hi1l.2, (Below.refl _ _).alloc (Nat.le_refl _) _, blk_new w _⟩
 case round =>
  obtain ⟨k, rfl, hik, hk, hb, hres⟩ := hrel
  have HB := Lib.hid hb
  have HRES := Lib.hid hres
  have hres0 := blk_lt hres
  clear hb hres
  have h0 : (0 : Int) ≤ (i : Int) := by omega
  have h1 : (i : Int) ≤ (k : Int) := by omega
  have h2 : (k : Int) ≤ (s.size : Int) := by omega
  have hx : (s.extract i k).size ≤ s.size := by
   obtain ⟨d, rfl⟩ := Nat.exists_eq_add_of_le (show i ≤ k by omega)
   rw [extract_size s i d (by omega)]; omega
  have HX := Lib.hid hx
  clear hx
  by_cases hlt : k < s.size
  ·have hj0 : (0 : Int) ≤ (k : Int) := by omega
   have hj1 : (k : Int) < (s.size : Int) := by omega
   have d1 : decide ((k : Int) < (s.size : Int)) = true := decide_eq_true (by omega)
   have hbg := bt_get s k hlt
   cases hl : low12 (bt s k) with
   | true =>
    have HLT := Lib.hid hl
    clear hl
    go_wp2_with fail
    refine (HL.out _ _).mono ?_
    rintro e w1 ⟨rfl, hww⟩
    obtain rfl : wr = w1 := hww.symm
    rw [HLT.out]
    go_wp2
    go_roundw
    case rel => exact ⟨k + 1, by go_num, by omega, by omega, HB.out, HRES.out⟩
    case measure => simp [intOf]; omega
   | false =>
    have HLT := Lib.hid hl
    clear hl
    cases hd : dig (bt s k) with
    | true =>
     have HDG := Lib.hid hd
     clear hd
     go_wp2_with fail
     refine (HL.out _ _).mono ?_
     rintro e w1 ⟨rfl, hww⟩
     obtain rfl : wr = w1 := hww.symm
     rw [HLT.out]
     go_wp2_with fail
     refine (HD.out _ _).mono ?_
     rintro e w1 ⟨rfl, hww⟩
     obtain rfl : wr = w1 := hww.symm
     rw [HDG.out]
     go_wp2
     go_roundw
     case rel => exact ⟨k + 1, by go_num, by omega, by omega, HB.out, HRES.out⟩
     case measure => simp [intOf]; omega
    | false =>
     have HDG := Lib.hid hd
     clear hd
     have r0 := blk_cell HRES.out 0
     have rf0 := blk_frozen HRES.out 0
     have r1 := blk_cell HRES.out 1
     have rf1 := blk_frozen HRES.out 1
     have r2 := blk_cell HRES.out 2
     have rf2 := blk_frozen HRES.out 2
     have r3 := blk_cell HRES.out 3
     have rf3 := blk_frozen HRES.out 3
     have r4 := blk_cell HRES.out 4
     have rf4 := blk_frozen HRES.out 4
     go_wp2_with fail
     refine (HL.out _ _).mono ?_
     rintro e w1 ⟨rfl, hww⟩
     obtain rfl : wr = w1 := hww.symm
     rw [HLT.out]
     go_wp2_with fail
     refine (HD.out _ _).mono ?_
     rintro e w1 ⟨rfl, hww⟩
     obtain rfl : wr = w1 := hww.symm
     rw [HDG.out]
     go_wp2_with fail
     have hr := five_blk HRES.out (.int .i64 3) (.string (s.extract i k)) (.slice none 0 0) (.slice none 0 0) (.int .i64 (i : Int))
     unfold fiveSet at hr
     have q0 := blk_cell hr 0
     have q1 := blk_cell hr 1
     have q2 := blk_cell hr 2
     have q3 := blk_cell hr 3
     have q4 := blk_cell hr 4
     refine bodyPost_ret (v := .tuple #[.agg #[.int .i64 3, .string (s.extract i k), .slice none 0 0, .slice none 0 0, .int .i64 (i : Int)], .int .i64 (k : Int)]) (by simp [results, Try.results43, go_sem, q0, q1, q2, q3, q4]) rfl ?_
     exact ⟨below_five HB.out (Nat.le_refl _) (.int .i64 3) (.string (s.extract i k)) (.slice none 0 0) (.slice none 0 0) (.int .i64 (i : Int)), _, k, rfl, HX.out, by omega, by omega⟩
  ·obtain rfl : k = s.size := by omega
   have d1 : decide ((s.size : Int) < (s.size : Int)) = false := decide_eq_false (by omega)
   have r0 := blk_cell HRES.out 0
   have rf0 := blk_frozen HRES.out 0
   have r1 := blk_cell HRES.out 1
   have rf1 := blk_frozen HRES.out 1
   have r2 := blk_cell HRES.out 2
   have rf2 := blk_frozen HRES.out 2
   have r3 := blk_cell HRES.out 3
   have rf3 := blk_frozen HRES.out 3
   have r4 := blk_cell HRES.out 4
   have rf4 := blk_frozen HRES.out 4
   go_wp2_with fail
   have hr := five_blk HRES.out (.int .i64 3) (.string (s.extract i s.size)) (.slice none 0 0) (.slice none 0 0) (.int .i64 (i : Int))
   unfold fiveSet at hr
   have q0 := blk_cell hr 0
   have q1 := blk_cell hr 1
   have q2 := blk_cell hr 2
   have q3 := blk_cell hr 3
   have q4 := blk_cell hr 4
   refine bodyPost_ret (v := .tuple #[.agg #[.int .i64 3, .string (s.extract i s.size), .slice none 0 0, .slice none 0 0, .int .i64 (i : Int)], .int .i64 (s.size : Int)]) (by simp [results, Try.results43, go_sem, q0, q1, q2, q3, q4]) rfl ?_
   exact ⟨below_five HB.out (Nat.le_refl _) (.int .i64 3) (.string (s.extract i s.size)) (.slice none 0 0) (.slice none 0 0) (.int .i64 (i : Int)), _, s.size, rfl, HX.out, by omega, Nat.le_refl _⟩
/-- which of some words stands at a place -/
def FixTo (o : Option ByteArray) (K : Int) (i : Nat) (w : World) (e : Ending) (w' : World) : Prop := Below w.heap.size w w' ∧ match o with
 | some x => e = .returned (.tuple #[.agg #[.int .i64 K, .string x, .slice none 0 0, .slice none 0 0, .int .i64 (i : Int)], .bool true])
 | none => e = .returned (.tuple #[.agg #[.int .i64 0, .string ⟨#[]⟩, .slice none 0 0, .slice none 0 0, .int .i64 0], .bool false])
set_option maxRecDepth 100000 in
set_option maxHeartbeats 4000000 in
theorem fixedL_any (A : Option Addr) (c : Nat) (l : List ByteArray) (s : ByteArray) (i : Nat) (K : Int) (w : World) (hS : StrsAt w A l) (hl : l.length ≤ 1000) (hx : ∀ x ∈ l, x.size ≤ 1000) (hs : s.size ≤ 1000000) (hi : i ≤ s.size) :
  Calls Try.prog 69 #[.string s, .int .i64 (i : Int), .slice A l.length c, .int .i64 K] w (FixTo (l.find? fun x => startsM s i x) K i w) := by
 obtain ⟨R, hR⟩ : ∃ R, (l.find? fun x => startsM s i x) = R := ⟨_, rfl⟩
 rw [hR]
 have HR := Lib.hid hR
 have HS := Lib.hid hS
 have HX := Lib.hid hx
 clear hR hS hx
 go_enter Try.func69, Try.ntmps69
 go_wp2
 go_loopw [10] (fun q wr => ∃ (k : Nat), q = .int .i64 k ∧ k ≤ l.length ∧ Below w.heap.size w wr ∧ wr.heap[w.heap.size]? = some (.cells #[.int .i64 0, .string ⟨#[]⟩, .slice none 0 0, .slice none 0 0, .int .i64 0] 43 (0, 0)) ∧ ((l.drop k).find? fun x => startsM s i x) = R) (fun q _ => l.length - (intOf q).toNat)
 case atStart => exact ⟨0, rfl, Nat.zero_le _, (Below.refl _ _).alloc (Nat.le_refl _) _, blk_new w _, HR.out⟩
 case round =>
  obtain ⟨k, rfl, hk, hb, hres, hM⟩ := hrel
  have HB := Lib.hid hb
  have HRES := Lib.hid hres
  have hres0 := blk_lt hres
  clear hres
  by_cases hlt : k < l.length
  ·have d1 : decide ((k : Int) < (l.length : Int)) = true := decide_eq_true (by omega)
   have hj0 : (0 : Int) ≤ (k : Int) := by omega
   have hj1 : (k : Int) < (l.length : Int) := by omega
   obtain ⟨b, off, rfl, hall⟩ := (HS.out.below hb) (by omega)
   obtain ⟨y, hy⟩ : ∃ y, l[k]? = some y := ⟨_, List.getElem?_eq_getElem hlt⟩
   have cy := hall k y hy
   have hby := World.block_lt_of_cell? _ _ cy
   have hys := HX.out y (List.mem_of_getElem? hy)
   rw [List.drop_eq_getElem_cons hlt, show l[k] = y from by rw [List.getElem?_eq_getElem hlt] at hy; exact Option.some.inj hy, List.find?_cons] at hM
   have HST := Lib.hid (starts_any s y i wr hs (by omega) hys)
   clear hall hy hb
   cases hst : startsM s i y with
   | true =>
    rw [hst] at hM HST
    dsimp only at hM
    subst hM
    clear hst
    have r0 := blk_cell HRES.out 0
    have rf0 := blk_frozen HRES.out 0
    have r1 := blk_cell HRES.out 1
    have rf1 := blk_frozen HRES.out 1
    have r2 := blk_cell HRES.out 2
    have rf2 := blk_frozen HRES.out 2
    have r3 := blk_cell HRES.out 3
    have rf3 := blk_frozen HRES.out 3
    have r4 := blk_cell HRES.out 4
    have rf4 := blk_frozen HRES.out 4
    go_wp2_with fail
    refine HST.out.mono ?_
    rintro e w1 ⟨rfl, hww⟩
    obtain rfl : wr = w1 := hww.symm
    go_wp2_with fail
    have hr := five_blk HRES.out (.int .i64 K) (.string y) (.slice none 0 0) (.slice none 0 0) (.int .i64 (i : Int))
    unfold fiveSet at hr
    have q0 := blk_cell hr 0
    have q1 := blk_cell hr 1
    have q2 := blk_cell hr 2
    have q3 := blk_cell hr 3
    have q4 := blk_cell hr 4
    refine bodyPost_ret (v := .tuple #[.agg #[.int .i64 K, .string y, .slice none 0 0, .slice none 0 0, .int .i64 (i : Int)], .bool true]) (by simp [results, Try.results69, go_sem, q0, q1, q2, q3, q4]) rfl ?_
    exact ⟨below_five HB.out (Nat.le_refl _) (.int .i64 K) (.string y) (.slice none 0 0) (.slice none 0 0) (.int .i64 (i : Int)), rfl⟩
   | false =>
    rw [hst] at hM HST
    dsimp only at hM
    have HM := Lib.hid hM
    clear hst hM
    go_wp2_with fail
    refine HST.out.mono ?_
    rintro e w1 ⟨rfl, hww⟩
    obtain rfl : wr = w1 := hww.symm
    go_wp2
    go_roundw
    case rel => exact ⟨k + 1, by go_num, by omega, HB.out, HRES.out, HM.out⟩
    case measure => simp [intOf]; omega
  ·obtain rfl : k = l.length := by omega
   have d1 : decide ((l.length : Int) < (l.length : Int)) = false := decide_eq_false (by omega)
   rw [List.drop_length] at hM
   simp only [List.find?_nil] at hM
   subst hM
   clear hb
   have r0 := blk_cell HRES.out 0
   have rf0 := blk_frozen HRES.out 0
   have r1 := blk_cell HRES.out 1
   have rf1 := blk_frozen HRES.out 1
   have r2 := blk_cell HRES.out 2
   have rf2 := blk_frozen HRES.out 2
   have r3 := blk_cell HRES.out 3
   have rf3 := blk_frozen HRES.out 3
   have r4 := blk_cell HRES.out 4
   have rf4 := blk_frozen HRES.out 4
   go_wp2_with fail
   have hr := five_blk HRES.out (.int .i64 0) (.string ⟨#[]⟩) (.slice none 0 0) (.slice none 0 0) (.int .i64 0)
   unfold fiveSet at hr
   have q0 := blk_cell hr 0
   have q1 := blk_cell hr 1
   have q2 := blk_cell hr 2
   have q3 := blk_cell hr 3
   have q4 := blk_cell hr 4
   refine bodyPost_ret (v := .tuple #[.agg #[.int .i64 0, .string ⟨#[]⟩, .slice none 0 0, .slice none 0 0, .int .i64 0], .bool false]) (by simp [results, Try.results69, go_sem, q0, q1, q2, q3, q4]) rfl ?_
   exact ⟨below_five HB.out (Nat.le_refl _) (.int .i64 0) (.string ⟨#[]⟩) (.slice none 0 0) (.slice none 0 0) (.int .i64 0), rfl⟩
end Go.Proofs.Ytollglblkbjgjaa
