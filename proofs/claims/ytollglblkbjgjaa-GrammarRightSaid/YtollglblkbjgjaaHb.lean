/- Contracts of the reference's small functions over a text: a digit, a letter, does a text go on so, a number begins, blanks, a sign. Conditions: the text is no longer than a million bytes. -/
import Derived.Test.YtollglblkbjgjaaHa
import Derived.Lib.ConvBytes
namespace Go.Proofs.Ytollglblkbjgjaa
open Go.RowKit

/-- a text's bytes as numbers -/
def nb (s : ByteArray) : List Int := s.data.toList.map fun x => (x.toNat : Int)
theorem nb_length (s : ByteArray) : (nb s).length = s.size := by unfold nb; rw [List.length_map, Array.length_toList]; rfl
theorem nb_getD (s : ByteArray) (i : Nat) (h : i < s.size) : (nb s).getD i 0 = (s[i].toNat : Int) := by
 have h2 : i < s.data.toList.length := by rw [Array.length_toList]; exact h
 have h3 : (nb s)[i]? = some ((s[i].toNat : Nat) : Int) := by
  simp only [nb, List.getElem?_map, List.getElem?_eq_getElem h2, Option.map_some]
  rfl
 rw [List.getD_eq_getElem?_getD, h3]; rfl
theorem strOfNums_nb (s : ByteArray) : strOfNums (nb s) = s := by
 apply ByteArray.ext
 apply Array.toList_inj.1
 rw [strOfNums_data]
 unfold nb
 rw [List.map_map]
 conv => rhs; rw [← List.map_id s.data.toList]
 apply List.map_congr_left
 intro x _
 simp
theorem nb_bytes (s : ByteArray) : Spec.Bytes (nb s) := by
 intro x hx
 obtain ⟨b, _, rfl⟩ := List.mem_map.1 hx
 have := b.toNat_lt
 omega
theorem extract_nb (s : ByteArray) (i k : Nat) : s.extract i (i + k) = strOfNums (((nb s).drop i).take k) := by
 conv => lhs; rw [← strOfNums_nb s]
 apply ByteArray.ext
 apply Array.toList_inj.1
 rw [strOfNums_data]
 simp only [ByteArray.data_extract, Array.toList_extract, strOfNums_data, List.map_take, List.map_drop, List.extract_eq_take_drop, Nat.add_sub_cancel_left]

set_option maxRecDepth 100000 in
theorem conv_all (s : ByteArray) (hs : s.size ≤ 1000000) (W : World) : (convert 9 95 (.string s)).run Try.prog W = .ok (.slice (some ⟨W.heap.size, 0, none⟩) s.size (grownCap W s.size 0 5)) (Lib.bytesWorld W 5 s) ∧ RowAt .u8 (Lib.bytesWorld W 5 s) (some ⟨W.heap.size, 0, none⟩) (nb s) ∧ Below W.heap.size W (Lib.bytesWorld W 5 s) ∧ s.size ≤ grownCap W s.size 0 5 := by
 refine ⟨Lib.run_convert_string_bytes W 9 95 5 s Try.underlying9 Try.underlying95 Try.underlying5, ⟨by rw [nb_length]; omega, fun _ => ⟨_, _, rfl, fun j hj => ?_⟩⟩, ?_, grownCap_ge _ _ _ _⟩
 ·rw [nb_length] at hj
  rw [Nat.zero_add, Lib.bytesWorld_cell W 5 s j hj, nb_getD s j hj]
  have h2 : j < s.data.toList.length := by rw [Array.length_toList]; exact hj
  rw [List.getD_eq_getElem?_getD, List.getElem?_eq_getElem h2]
  rfl
 ·refine ⟨rfl, rfl, rfl, ?_, fun k hk => Lib.bytesWorld_at_old W 5 s k hk⟩
  rw [Lib.bytesWorld_size]; omega
theorem nb_str (l : List Int) (h : Spec.Bytes l) : nb (strOfNums l) = l := by
 unfold nb
 rw [strOfNums_data, List.map_map]
 conv => rhs; rw [← List.map_id l]
 apply List.map_congr_left
 intro x hx
 have := h x hx
 simp only [Function.comp_apply, UInt8.toNat_ofNat', id_eq]
 omega
theorem nb_extract (s : ByteArray) (i k : Nat) : nb (s.extract i (i + k)) = ((nb s).drop i).take k := by
 rw [extract_nb, nb_str]
 exact fun x hx => nb_bytes s x (List.mem_of_mem_drop (List.mem_of_mem_take hx))
theorem extract_size (s : ByteArray) (i k : Nat) (h : i + k ≤ s.size) : (s.extract i (i + k)).size = k := by
 rw [← nb_length, nb_extract, List.length_take, List.length_drop, nb_length]
 omega
def dig (c : Int) : Bool := decide (48 ≤ c) && decide (c ≤ 57)
def low12 (c : Int) : Bool := decide (97 ≤ c) && decide (c ≤ 119)
def low26 (c : Int) : Bool := decide (97 ≤ c) && decide (c ≤ 122)
def bt (s : ByteArray) (i : Nat) : Int := (nb s).getD i 0
theorem bt_get (s : ByteArray) (i : Nat) (h : i < s.size) : ((s[i].toNat : Nat) : Int) = bt s i := (nb_getD s i h).symm
theorem digit_any (c : Int) (w : World) : Calls Try.prog 64 #[.int .u8 c] w (Says (.bool (dig c)) w) := by
 unfold dig
 by_cases h1 : 48 ≤ c <;> by_cases h2 : c ≤ 57
 all_goals
  go_enter Try.func64, Try.ntmps64
  go_wp2
  go_ret
  exact ⟨by simp [h1, h2], rfl⟩
theorem letter_any (c : Int) (w : World) : Calls Try.prog 42 #[.int .u8 c] w (Says (.bool (low12 c)) w) := by
 unfold low12
 by_cases h1 : 97 ≤ c <;> by_cases h2 : c ≤ 119
 all_goals
  go_enter Try.func42, Try.ntmps42
  go_wp2
  go_ret
  exact ⟨by simp [h1, h2], rfl⟩
/-- does a text go on so at a place -/
def startsM (s : ByteArray) (i : Nat) (p : ByteArray) : Bool := decide (i + p.size ≤ s.size) && ((s.extract i (i + p.size)).toList == p.toList)
set_option maxRecDepth 100000 in
theorem starts_any (s p : ByteArray) (i : Nat) (w : World) (_hs : s.size ≤ 1000000) (hi : i ≤ 1000100) (hp : p.size ≤ 1000) : Calls Try.prog 24 #[.string s, .int .i64 (i : Int), .string p] w (Says (.bool (startsM s i p)) w) := by
 have hw : IntKind.i64.wrap ((i : Int) + (p.size : Int)) = (i : Int) + (p.size : Int) := wraps_i64 _ (by omega) (by omega)
 unfold startsM
 by_cases h : i + p.size ≤ s.size
 ·have d1 : decide ((i : Int) + (p.size : Int) ≤ (s.size : Int)) = true := decide_eq_true (by omega)
  have h0 : (0 : Int) ≤ (i : Int) := by omega
  have h1 : (i : Int) ≤ (i : Int) + (p.size : Int) := by omega
  have h2 : (i : Int) + (p.size : Int) ≤ (s.size : Int) := by omega
  have e2 : ((i : Int) + (p.size : Int)).toNat = i + p.size := by omega
  rw [decide_eq_true h]
  go_enter Try.func24, Try.ntmps24
  go_wp2
  go_ret
  exact ⟨by simp, rfl⟩
 ·have d1 : decide ((i : Int) + (p.size : Int) ≤ (s.size : Int)) = false := decide_eq_false (by omega)
  rw [decide_eq_false h]
  go_enter Try.func24, Try.ntmps24
  go_wp2
  go_ret
  exact ⟨by simp, rfl⟩
theorem conv_text (s : ByteArray) (W : World) (hs : s.size ≤ 1000000) : ∃ cap W', (convert 9 95 (.string s)).run Try.prog W = .ok (.slice (some ⟨W.heap.size, 0, none⟩) s.size cap) W' ∧ s.size ≤ cap ∧ RowAt .u8 W' (some ⟨W.heap.size, 0, none⟩) (nb s) ∧ Below W.heap.size W W' := by
 obtain ⟨h1, h2, h3, h4⟩ := conv_all s hs W
 exact ⟨_, _, h1, h4, h2, h3⟩
theorem one_take4 (l : List Int) : Spec.one (l.take 4) = Spec.one l := by
 match l with
 | [] => rfl
 | [a] => rfl
 | [a, b] => rfl
 | [a, b, c] => rfl
 | a :: b :: c :: d :: r => simp [Spec.one, show ¬ (r.length + 1 + 1 + 1 < 2) by omega, show ¬ (r.length + 1 + 1 + 1 < 3) by omega]
/-- the sign at a place: its number, its bytes -/
def signM (s : ByteArray) (i : Nat) : Int × Int := Spec.one ((nb s).drop i)
def SignTo (s : ByteArray) (i : Nat) (w : World) (e : Ending) (w' : World) : Prop := e = .returned (.tuple #[.int .i64 (signM s i).1, .int .i64 (signM s i).2]) ∧ Below w.heap.size w w'
set_option maxRecDepth 100000 in
set_option maxHeartbeats 2000000 in
theorem sign_at (s : ByteArray) (i : Nat) (w : World) (hs : s.size ≤ 1000000) (hi : i ≤ s.size) : Calls Try.prog 38 #[.string s, .int .i64 (i : Int)] w (SignTo s i w) := by
 have hw : IntKind.i64.wrap ((i : Int) + 4) = (i : Int) + 4 := wraps_i64 _ (by omega) (by omega)
 unfold SignTo signM
 rw [← one_take4]
 obtain ⟨q, hq⟩ : ∃ q, Spec.one (((nb s).drop i).take 4) = q := ⟨_, rfl⟩
 rw [hq]
 have HQ := Lib.hid hq
 clear hq
 have h0 : (0 : Int) ≤ (i : Int) := by omega
 by_cases h : i + 4 ≤ s.size
 ·have d1 : decide ((s.size : Int) < (i : Int) + 4) = false := decide_eq_false (by omega)
  have h1 : (i : Int) ≤ (i : Int) + 4 := by omega
  have h2 : (i : Int) + 4 ≤ (s.size : Int) := by omega
  have e2 : ((i : Int) + 4).toNat = i + 4 := by omega
  have hx := extract_size s i 4 h
  obtain ⟨cap, W1, hc, hcap, hrow, hbel⟩ := conv_text (s.extract i (i + 4)) w (by omega)
  rw [hx] at hc hcap
  have HROW := Lib.hid hrow
  have HBEL := Lib.hid hbel
  clear hrow hbel
  go_enter Try.func38, Try.ntmps38
  go_wp2_with fail
  refine (rone_any _ 4 cap (nb (s.extract i (i + 4))) W1 HROW.out ((nb_length _).trans hx) hcap (nb_bytes _)).mono ?_
  rintro e w1 ⟨rfl, hb⟩
  rw [nb_extract, HQ.out]
  have HB := Lib.hid (HBEL.out.trans (hb.mono HBEL.out.size))
  clear hb
  go_wp2
  go_ret2
  exact ⟨rfl, HB.out⟩
 ·have d1 : decide ((s.size : Int) < (i : Int) + 4) = true := decide_eq_true (by omega)
  have h1 : (i : Int) ≤ (s.size : Int) := by omega
  obtain ⟨k, hk⟩ : ∃ k, s.size = i + k := ⟨s.size - i, by omega⟩
  have hx := extract_size s i k (by omega)
  rw [← hk] at hx
  have HX := Lib.hid (show nb (s.extract i s.size) = ((nb s).drop i).take 4 by
   have := nb_extract s i k
   rw [← hk] at this
   rw [this, List.take_of_length_le (by rw [List.length_drop, nb_length]; omega), List.take_of_length_le (by rw [List.length_drop, nb_length]; omega)])
  obtain ⟨cap, W1, hc, hcap, hrow, hbel⟩ := conv_text (s.extract i s.size) w (by omega)
  rw [hx] at hc hcap
  have HROW := Lib.hid hrow
  have HBEL := Lib.hid hbel
  clear hrow hbel hk
  go_enter Try.func38, Try.ntmps38
  go_wp2_with fail
  refine (rone_any _ k cap (nb (s.extract i s.size)) W1 HROW.out ((nb_length _).trans hx) hcap (nb_bytes _)).mono ?_
  rintro e w1 ⟨rfl, hb⟩
  rw [HX.out, HQ.out]
  have HB := Lib.hid (HBEL.out.trans (hb.mono HBEL.out.size))
  clear hb
  go_wp2
  go_ret2
  exact ⟨rfl, HB.out⟩
def digAt (s : ByteArray) (i : Nat) : Bool := decide (i < s.size) && dig (bt s i)
/-- does a number begin at a place -/
def beginsM (s : ByteArray) (i : Nat) (p : ByteArray) : Bool := digAt s (if startsM s i p = true then i + p.size else i)
theorem starts_le {s p : ByteArray} {i : Nat} (h : startsM s i p = true) : i + p.size ≤ s.size := by
 unfold startsM at h
 rw [Bool.and_eq_true] at h
 exact of_decide_eq_true h.1
set_option maxRecDepth 100000 in
set_option maxHeartbeats 2000000 in
theorem begins_any (s p : ByteArray) (i : Nat) (w : World) (hs : s.size ≤ 1000000) (hi : i ≤ s.size) (hp : p.size ≤ 1000) : Calls Try.prog 39 #[.string s, .int .i64 (i : Int), .string p] w (Says (.bool (beginsM s i p)) w) := by
 have hw : IntKind.i64.wrap ((i : Int) + (p.size : Int)) = (((i + p.size : Nat)) : Int) := (wraps_i64 _ (by omega) (by omega)).trans (by omega)
 have HST := Lib.hid (starts_any s p i w hs (by omega) hp)
 unfold beginsM
 have HD := Lib.hid (fun (c : Int) (w : World) => digit_any c w)
 have tail : ∀ j : Nat, j ≤ s.size → (digAt s j = true ∧ j < s.size ∧ dig (bt s j) = true) ∨ (digAt s j = false ∧ j < s.size ∧ dig (bt s j) = false) ∨ (digAt s j = false ∧ j = s.size) := by
  intro j hj
  unfold digAt
  rcases Nat.lt_or_ge j s.size with h | h
  ·rw [decide_eq_true h, Bool.true_and]
   cases hd : dig (bt s j)
   ·exact .inr (.inl ⟨rfl, h, rfl⟩)
   ·exact .inl ⟨rfl, h, rfl⟩
  ·exact .inr (.inr ⟨by rw [decide_eq_false (by omega)]; rfl, by omega⟩)
 cases hst : startsM s i p with
 | true =>
  have hle := starts_le hst
  rw [hst] at HST
  rw [if_pos rfl]
  generalize i + p.size = j at *
  rcases tail j hle with ⟨h1, h2, h3⟩ | ⟨h1, h2, h3⟩ | ⟨h1, rfl⟩
  ·have d1 : decide ((j : Int) < (s.size : Int)) = true := decide_eq_true (by omega)
   have hj0 : (0 : Int) ≤ (j : Int) := by omega
   have hj1 : (j : Int) < (s.size : Int) := by omega
   have hbg := bt_get s j h2
   rw [h1]
   clear hst tail
   go_enter Try.func39, Try.ntmps39
   go_wp2_with fail
   refine HST.out.mono ?_
   rintro e w1 ⟨rfl, hww⟩
   obtain rfl : w = w1 := hww.symm
   go_wp2_with fail
   refine (HD.out _ _).mono ?_
   rintro e w1 ⟨rfl, hww⟩
   obtain rfl : w = w1 := hww.symm
   rw [h3]
   go_wp2
   refine bodyPost_ret (v := .bool true) (by simp [results, Try.results39, go_sem]) rfl ?_
   exact ⟨rfl, rfl⟩
  ·have d1 : decide ((j : Int) < (s.size : Int)) = true := decide_eq_true (by omega)
   have hj0 : (0 : Int) ≤ (j : Int) := by omega
   have hj1 : (j : Int) < (s.size : Int) := by omega
   have hbg := bt_get s j h2
   rw [h1]
   clear hst tail
   go_enter Try.func39, Try.ntmps39
   go_wp2_with fail
   refine HST.out.mono ?_
   rintro e w1 ⟨rfl, hww⟩
   obtain rfl : w = w1 := hww.symm
   go_wp2_with fail
   refine (HD.out _ _).mono ?_
   rintro e w1 ⟨rfl, hww⟩
   obtain rfl : w = w1 := hww.symm
   rw [h3]
   go_wp2
   refine bodyPost_ret (v := .bool false) (by simp [results, Try.results39, go_sem]) rfl ?_
   exact ⟨rfl, rfl⟩
  ·have d1 : decide ((s.size : Int) < (s.size : Int)) = false := decide_eq_false (by omega)
   rw [h1]
   clear hst tail
   go_enter Try.func39, Try.ntmps39
   go_wp2_with fail
   refine HST.out.mono ?_
   rintro e w1 ⟨rfl, hww⟩
   obtain rfl : w = w1 := hww.symm
   go_wp2
   refine bodyPost_ret (v := .bool false) (by simp [results, Try.results39, go_sem]) rfl ?_
   exact ⟨rfl, rfl⟩
 | false =>
  rw [hst] at HST
  rw [if_neg Bool.false_ne_true]
  rcases tail i hi with ⟨h1, h2, h3⟩ | ⟨h1, h2, h3⟩ | ⟨h1, rfl⟩
  ·have d1 : decide ((i : Int) < (s.size : Int)) = true := decide_eq_true (by omega)
   have hj0 : (0 : Int) ≤ (i : Int) := by omega
   have hj1 : (i : Int) < (s.size : Int) := by omega
   have hbg := bt_get s i h2
   rw [h1]
   clear hst tail
   go_enter Try.func39, Try.ntmps39
   go_wp2_with fail
   refine HST.out.mono ?_
   rintro e w1 ⟨rfl, hww⟩
   obtain rfl : w = w1 := hww.symm
   go_wp2_with fail
   refine (HD.out _ _).mono ?_
   rintro e w1 ⟨rfl, hww⟩
   obtain rfl : w = w1 := hww.symm
   rw [h3]
   go_wp2
   refine bodyPost_ret (v := .bool true) (by simp [results, Try.results39, go_sem]) rfl ?_
   exact ⟨rfl, rfl⟩
  ·have d1 : decide ((i : Int) < (s.size : Int)) = true := decide_eq_true (by omega)
   have hj0 : (0 : Int) ≤ (i : Int) := by omega
   have hj1 : (i : Int) < (s.size : Int) := by omega
   have hbg := bt_get s i h2
   rw [h1]
   clear hst tail
   go_enter Try.func39, Try.ntmps39
   go_wp2_with fail
   refine HST.out.mono ?_
   rintro e w1 ⟨rfl, hww⟩
   obtain rfl : w = w1 := hww.symm
   go_wp2_with fail
   refine (HD.out _ _).mono ?_
   rintro e w1 ⟨rfl, hww⟩
   obtain rfl : w = w1 := hww.symm
   rw [h3]
   go_wp2
   refine bodyPost_ret (v := .bool false) (by simp [results, Try.results39, go_sem]) rfl ?_
   exact ⟨rfl, rfl⟩
  ·have d1 : decide ((s.size : Int) < (s.size : Int)) = false := decide_eq_false (by omega)
   rw [h1]
   clear hst tail
   go_enter Try.func39, Try.ntmps39
   go_wp2_with fail
   refine HST.out.mono ?_
   rintro e w1 ⟨rfl, hww⟩
   obtain rfl : w = w1 := hww.symm
   go_wp2
   refine bodyPost_ret (v := .bool false) (by simp [results, Try.results39, go_sem]) rfl ?_
   exact ⟨rfl, rfl⟩
end Go.Proofs.Ytollglblkbjgjaa
