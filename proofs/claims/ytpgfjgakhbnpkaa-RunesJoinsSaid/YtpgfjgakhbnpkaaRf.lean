/- Contracts of the reference's Write, value and Same. Conditions: the rows read in memory. -/
import Derived.Test.YtpgfjgakhbnpkaaRe
namespace Go.Proofs.Ytpgfjgakhbnpkaa
open Go.RowKit

theorem own_form_pos {w : World} {base n : Nat} {e : TypeId} {v : Value} {xs : List Value} (h : w.ownsRow base e 1 v n xs) (hn : 0 < n) : ∃ g cap, v = .slice (some ⟨g, 0, none⟩) n cap ∧ g < w.heap.size ∧ ∀ j u, xs[j]? = some u → w.cell? ((⟨g, 0, none⟩ : Addr).add j) = some u := by
  obtain ⟨g, cap, rfl, _, hlt⟩ := h.form hn
  exact ⟨g, cap, rfl, hlt, fun j u hu => h.cells rfl j u hu⟩

set_option maxRecDepth 100000 in
set_option maxHeartbeats 2000000 in
theorem rwrite_any (A : Option Addr) (n c : Nat) (l : List Int) (w : World) (hr : RowAt .i64 w A l) (hl : l.length = n) (hn : n ≤ 17592186044416) :
    Calls Try.prog 9 #[.slice A n c] w (WriteTo l w) := by
  obtain ⟨i5, hi5, hz5, hs5, hb5⟩ := info_parts info_u8
  have HR := Lib.hid hr
  have HL := Lib.hid hl
  clear hr hl
  go_enter Try.func9, Try.ntmps9
  go_wp2
  go_loopw [4, 5] (fun v i wr => ∃ k : Nat, k ≤ n ∧ i = .int .i64 k ∧ AllGood (l.take k) ∧ wr.ownsRow w.heap.size 5 1 v (Spec.encs (l.take k)).length (nums .u8 (Spec.encs (l.take k))) ∧ Below w.heap.size w wr) (fun _ i _ => n - (intOf i).toNat)
  case atStart => exact ⟨0, Nat.zero_le _, rfl, fun x hx => by simp at hx, World.ownsRow_nil _ _ _ _, Below.refl _ _⟩
  case round =>
    obtain ⟨k, hk, rfl, hg, hown, hbel⟩ := hrel
    obtain ⟨vA, vc, rfl, hvc, _, _, hvA, hrow⟩ := own_row hown
    have HG := Lib.hid hg
    have HO := Lib.hid hown
    have HB := Lib.hid hbel
    clear hg hown hbel hrow hvA
    by_cases hlt : k < n
    · obtain ⟨b, off, rfl, hcell⟩ := HR.out.2 (by rw [HL.out]; omega)
      obtain ⟨x, hx⟩ : ∃ x, l.getD k 0 = x := ⟨_, rfl⟩
      have ck : wr.cell? ⟨b, off + k, none⟩ = some (.int .i64 x) := by rw [← hx]; exact cell_below_at HB.out (hcell k (by rw [HL.out]; exact hlt))
      have HX := Lib.hid hx
      have htk := Lib.hid (show l.take (k + 1) = l.take k ++ [x] by rw [← hx]; exact take_snoc_getD l k (by rw [HL.out]; exact hlt))
      clear hcell hx
      go_wp2_with fail
      refine (rgood_any x _).mono ?_
      rintro e w1 ⟨rfl, rfl⟩
      by_cases hgx : Spec.good x = true
      · rw [hgx]
        have hm : (Spec.encs (l.take k)).length ≤ 100000000000000 := by have := encs_len (l.take k); rw [List.length_take] at this; omega
        generalize hM : (Spec.encs (l.take k)).length = m at *
        have HM := Lib.hid hM
        have hmm : m + 4 ≤ 140737488355328 := by omega
        have Hmm := Lib.hid hmm
        clear hM hm hmm
        go_wp2_with fail
        refine (rput_any x _ hgx).mono ?_
        rintro e w2 ⟨pv, rfl, hown2, hb2⟩
        have hel := enc_len x
        obtain ⟨g, cap, rfl, hgl, hcs⟩ := own_form_pos hown2 (by omega)
        have HO2 := Lib.hid (own_below HO.out hb2)
        have HB2 := Lib.hid (below_then HB.out HB.out.size hb2)
        have HC := Lib.hid hcs
        have hsz2 : w.heap.size ≤ w2.heap.size := HB2.out.size
        generalize hq : (Spec.enc x).length = q at *
        have HQ := Lib.hid hq
        clear hown2 hb2 hcs hq
        go_wp2_with
          (at_builtin; refine wpList_append_lies _ rfl (.tmp 18) (.tmp 23) 23 rfl w.heap.size 5 i5 _ 1 1 Try.underlying23 hi5 hz5 hs5 hb5 rfl (by omega) (.slice vA m vc) m (nums .u8 (Spec.encs (l.take k))) rfl HO2.out ⟨g, 0, none⟩ q cap (nums .u8 (Spec.enc x)) rfl (by rw [nums_length, HQ.out]; omega) HC.out nums_one (by omega) (by have := Hmm.out; unfold maxLen; omega) (by have := Hmm.out; omega) hsz2 _ rfl ?_; intro gg cap2 w3 hown3 hgrow hat hlt3)
        have hown4 : w3.ownsRow w.heap.size 5 1 (.slice (some ⟨gg, 0, none⟩) (m + q) cap2) (Spec.encs (l.take (k + 1))).length (nums .u8 (Spec.encs (l.take (k + 1)))) := by
          rw [htk.out, encs_snoc, nums_append, List.length_append, HM.out, HQ.out]; exact hown3
        have hb4 : Below w.heap.size w w3 := HB2.out.grown hgrow hsz2 (fun r hr => (HO2.out.lt r hr).1)
        have HO4 := Lib.hid hown4
        have HB4 := Lib.hid hb4
        clear hown3 hown4 hb4 hgrow hat
        go_wp2
        go_roundw
        case rel =>
          refine ⟨k + 1, by omega, by go_num, ?_, HO4.out, HB4.out⟩
          rw [htk.out]; intro z hz; rcases List.mem_append.1 hz with h | h
          · exact HG.out z h
          · rw [List.mem_singleton] at h; rw [h]; exact hgx
        case measure => simp [intOf]; omega
      · have hgx' : Spec.good x = false := by simpa using hgx
        rw [hgx']
        have hno : ¬ AllGood l := fun h => hgx (h x (by rw [← HX.out]; exact mem_getD l k (by rw [HL.out]; exact hlt)))
        have HN := Lib.hid hno
        clear hno
        go_wp2
        go_ret2
        refine ⟨.slice none 0 0, ?_, ?_, HB.out⟩
        · unfold writeOut; rw [if_neg HN.out]; rfl
        · unfold writeOut; rw [if_neg HN.out]; exact World.ownsRow_nil _ _ _ _
    · obtain rfl : k = n := by omega
      have hall := Lib.hid (show l.take k = l from List.take_of_length_le (by rw [HL.out]; exact Nat.le_refl _))
      go_wp2
      go_ret2
      have hag : AllGood l := by rw [← hall.out]; exact HG.out
      refine ⟨.slice vA (Spec.encs (l.take k)).length vc, ?_, ?_, HB.out⟩
      · unfold writeOut; rw [if_pos hag]; rfl
      · unfold writeOut; rw [if_pos hag]
        have := HO.out
        have e := hall.out
        rw [e] at this ⊢
        exact this

/-- the number that so many bytes are -/
def valueOf : List Int → Int
  | [] => 0
  | c :: t => t.foldl (fun n d => n * 64 + d - 128) (if t.length = 1 then c - 192 else if t.length = 2 then c - 224 else if t.length = 3 then c - 240 else c)

def ValueTo (l : List Int) (w : World) (e : Ending) (w' : World) : Prop := e = .returned (.int .i64 (valueOf l)) ∧ w = w'

set_option maxRecDepth 100000 in
set_option maxHeartbeats 2000000 in
theorem value_any (A : Option Addr) (n c : Nat) (l : List Int) (w : World) (hr : RowAt .u8 w A l) (hl : l.length = n) (hn1 : 1 ≤ n) (hn4 : n ≤ 4) (hb : Spec.Bytes l) :
    Calls Try.prog 21 #[.slice A n c] w (ValueTo l w) := by
  obtain ⟨b, off, rfl, hcell⟩ := hr.2 (by omega)
  match l, hl, hn4, hn1 with
  | [a], hl, _, _ =>
    obtain rfl : n = 1 := by simpa using hl.symm
    have ha := hb a (by simp)
    have c0 : w.cell? ⟨b, off, none⟩ = some (.int .u8 a) := by simpa using hcell 0 (by simp)
    clear hcell hr hb hl
    go_enter Try.func21, Try.ntmps21
    go_wp2
    go_loop [3, 4] (fun v i => (i = .int .i64 1 ∧ v = .int .i64 a)) (fun _ i => 1 - (intOf i).toNat)
    case atStart => exact ⟨rfl, rfl⟩
    case round =>
      obtain ⟨rfl, rfl⟩ := hrel
      go_wp2
      go_ret
      exact ⟨rfl, rfl⟩
  | [a, d], hl, _, _ =>
    obtain rfl : n = 2 := by simpa using hl.symm
    have ha := hb a (by simp)
    have hd := hb d (by simp)
    have c0 : w.cell? ⟨b, off, none⟩ = some (.int .u8 a) := by simpa using hcell 0 (by simp)
    have c1 : w.cell? ⟨b, off + 1, none⟩ = some (.int .u8 d) := by simpa using hcell 1 (by simp)
    clear hcell hr hb hl
    go_enter Try.func21, Try.ntmps21
    go_wp2
    go_loop [3, 4] (fun v i => (i = .int .i64 1 ∧ v = .int .i64 (a - 192)) ∨ (i = .int .i64 2 ∧ v = .int .i64 ((a - 192) * 64 + d - 128))) (fun _ i => 2 - (intOf i).toNat)
    case atStart => exact .inl ⟨rfl, rfl⟩
    case round =>
      rcases hrel with ⟨rfl, rfl⟩ | ⟨rfl, rfl⟩
      · go_wp2
        go_round
        case rel => simp
        case measure => simp [intOf]
      · go_wp2
        go_ret
        exact ⟨rfl, rfl⟩
  | [a, d, f], hl, _, _ =>
    obtain rfl : n = 3 := by simpa using hl.symm
    have ha := hb a (by simp)
    have hd := hb d (by simp)
    have hf := hb f (by simp)
    have c0 : w.cell? ⟨b, off, none⟩ = some (.int .u8 a) := by simpa using hcell 0 (by simp)
    have c1 : w.cell? ⟨b, off + 1, none⟩ = some (.int .u8 d) := by simpa using hcell 1 (by simp)
    have c2 : w.cell? ⟨b, off + 2, none⟩ = some (.int .u8 f) := by simpa using hcell 2 (by simp)
    clear hcell hr hb hl
    go_enter Try.func21, Try.ntmps21
    go_wp2
    go_loop [3, 4] (fun v i => (i = .int .i64 1 ∧ v = .int .i64 (a - 224)) ∨ (i = .int .i64 2 ∧ v = .int .i64 ((a - 224) * 64 + d - 128)) ∨ (i = .int .i64 3 ∧ v = .int .i64 (((a - 224) * 64 + d - 128) * 64 + f - 128))) (fun _ i => 3 - (intOf i).toNat)
    case atStart => exact .inl ⟨rfl, rfl⟩
    case round =>
      rcases hrel with ⟨rfl, rfl⟩ | ⟨rfl, rfl⟩ | ⟨rfl, rfl⟩
      · go_wp2
        go_round
        case rel => simp
        case measure => simp [intOf]
      · go_wp2
        go_round
        case rel => simp
        case measure => simp [intOf]
      · go_wp2
        go_ret
        exact ⟨rfl, rfl⟩
  | [a, d, f, g], hl, _, _ =>
    obtain rfl : n = 4 := by simpa using hl.symm
    have ha := hb a (by simp)
    have hd := hb d (by simp)
    have hf := hb f (by simp)
    have hg := hb g (by simp)
    have c0 : w.cell? ⟨b, off, none⟩ = some (.int .u8 a) := by simpa using hcell 0 (by simp)
    have c1 : w.cell? ⟨b, off + 1, none⟩ = some (.int .u8 d) := by simpa using hcell 1 (by simp)
    have c2 : w.cell? ⟨b, off + 2, none⟩ = some (.int .u8 f) := by simpa using hcell 2 (by simp)
    have c3 : w.cell? ⟨b, off + 3, none⟩ = some (.int .u8 g) := by simpa using hcell 3 (by simp)
    clear hcell hr hb hl
    go_enter Try.func21, Try.ntmps21
    go_wp2
    go_loop [3, 4] (fun v i => (i = .int .i64 1 ∧ v = .int .i64 (a - 240)) ∨ (i = .int .i64 2 ∧ v = .int .i64 ((a - 240) * 64 + d - 128)) ∨ (i = .int .i64 3 ∧ v = .int .i64 (((a - 240) * 64 + d - 128) * 64 + f - 128)) ∨ (i = .int .i64 4 ∧ v = .int .i64 ((((a - 240) * 64 + d - 128) * 64 + f - 128) * 64 + g - 128))) (fun _ i => 4 - (intOf i).toNat)
    case atStart => exact .inl ⟨rfl, rfl⟩
    case round =>
      rcases hrel with ⟨rfl, rfl⟩ | ⟨rfl, rfl⟩ | ⟨rfl, rfl⟩ | ⟨rfl, rfl⟩
      · go_wp2
        go_round
        case rel => simp
        case measure => simp [intOf]
      · go_wp2
        go_round
        case rel => simp
        case measure => simp [intOf]
      · go_wp2
        go_round
        case rel => simp
        case measure => simp [intOf]
      · go_wp2
        go_ret
        exact ⟨rfl, rfl⟩

/-- the value of a sign's own bytes -/
theorem valueOf_enc (m : Int) (h : Spec.good m = true) : valueOf (Spec.enc m) = m := by
  rcases Spec.enc_cases h (l := Spec.enc m ++ []) rfl with ⟨_, _, _, ke⟩ | ⟨c, d, _, _, _, _, hm, _, _, _, ke⟩ | ⟨c, d, f, _, _, _, _, _, _, hm, _, _, _, ke⟩ | ⟨c, d, f, g, _, _, _, _, _, _, _, _, hm, _, _, ke⟩ <;> rw [ke] <;> simp [valueOf] <;> omega
end Go.Proofs.Ytpgfjgakhbnpkaa
