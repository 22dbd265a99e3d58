/- Contract of the program's runes.Write: the bytes of any signs, or that there is no such sign. Conditions: the numbers read in memory, in a slice. -/
import Derived.Test.YtpgfjgakhbnpkaaRc
namespace Go.Proofs.Ytpgfjgakhbnpkaa
open Go.RowKit

instance (l : List Int) : Decidable (AllGood l) := by unfold AllGood; exact inferInstance
def writeOut (l : List Int) : List Int × Int := if AllGood l then (Spec.encs l, 0) else ([], 3)
def WriteTo (l : List Int) (w : World) (e : Ending) (w' : World) : Prop :=
  ∃ v, e = .returned (.tuple #[v, .int .i64 (writeOut l).2]) ∧ w'.ownsRow w.heap.size 5 1 v (writeOut l).1.length (nums .u8 (writeOut l).1) ∧ Below w.heap.size w w'

theorem encs_len (l : List Int) : (Spec.encs l).length ≤ 4 * l.length := by
  induction l with
  | nil => simp [Spec.encs]
  | cons x r ih => have := (enc_len x).2; simp only [Spec.encs, List.flatMap_cons, List.length_append, List.length_cons] at *; omega

theorem cell_below_at {w0 w1 : World} (hb : Below w0.heap.size w0 w1) {a : Addr} {v : Value} (h : w0.cell? a = some v) : w1.cell? a = some v := cell_below hb h

theorem take_snoc_getD (l : List Int) (k : Nat) (h : k < l.length) : l.take (k + 1) = l.take k ++ [l.getD k 0] := by
  rw [List.take_succ_eq_append_getElem h, List.getD_eq_getElem?_getD, List.getElem?_eq_getElem h]; rfl

theorem mem_getD (l : List Int) (k : Nat) (h : k < l.length) : l.getD k 0 ∈ l := by
  rw [List.getD_eq_getElem?_getD, List.getElem?_eq_getElem h]; exact List.getElem_mem h

set_option maxRecDepth 100000 in
set_option maxHeartbeats 2000000 in
theorem write_any (A : Option Addr) (n c : Nat) (l : List Int) (w : World) (hr : RowAt .i64 w A l) (hl : l.length = n) (hn : n ≤ 17592186044416) :
    Calls Try.prog 8 #[.slice A n c] w (WriteTo l w) := by
  have HR := Lib.hid hr
  have HL := Lib.hid hl
  clear hr hl
  go_enter Try.func8, Try.ntmps8
  go_wp2
  go_loopw [4, 9] (fun v i wr => ∃ k : Nat, k ≤ n ∧ i = .int .i64 k ∧ AllGood (l.take k) ∧ wr.ownsRow w.heap.size 5 1 v (Spec.encs (l.take k)).length (nums .u8 (Spec.encs (l.take k))) ∧ Below w.heap.size w wr) (fun _ i _ => n - (intOf i).toNat)
  case atStart => exact ⟨0, Nat.zero_le _, rfl, fun x hx => by simp at hx, World.ownsRow_nil _ _ _ _, Below.refl _ _⟩
  case round =>
    obtain ⟨k, hk, rfl, hg, hown, hbel⟩ := hrel
    obtain ⟨vA, vc, rfl, hvc, _, _, hvA, hrow⟩ := own_row hown
    have HG := Lib.hid hg
    have HO := Lib.hid hown
    have HB := Lib.hid hbel
    have HW := Lib.hid hrow
    have HA := Lib.hid hvA
    clear hg hown hbel hrow hvA
    by_cases hlt : k < n
    · obtain ⟨b, off, rfl, hcell⟩ := HR.out.2 (by rw [HL.out]; omega)
      obtain ⟨x, hx⟩ : ∃ x, l.getD k 0 = x := ⟨_, rfl⟩
      have ck : wr.cell? ⟨b, off + k, none⟩ = some (.int .i64 x) := by rw [← hx]; exact cell_below_at HB.out (hcell k (by rw [HL.out]; exact hlt))
      have HX := Lib.hid hx
      have htk := Lib.hid (show l.take (k + 1) = l.take k ++ [x] by rw [← hx]; exact take_snoc_getD l k (by rw [HL.out]; exact hlt))
      clear hcell hx
      go_wp2_with fail
      refine (good_any x _).mono ?_
      rintro e w1 ⟨rfl, rfl⟩
      by_cases hgx : Spec.good x = true
      · rw [hgx]
        have hm : (Spec.encs (l.take k)).length ≤ 100000000000000 := by have := encs_len (l.take k); rw [List.length_take] at this; omega
        generalize hM : (Spec.encs (l.take k)).length = m at *
        have HM := Lib.hid hM
        clear hM
        go_wp2_with fail
        have hp := put_any vA (Spec.encs (l.take k)) x wr HW.out (fun h => by rw [HM.out]; exact (HA.out h).1) (by rw [HM.out]; exact hm) hgx
        rw [HM.out] at hp
        refine hp.mono ?_
        rintro e w2 ⟨pv, rfl, hown2, hb2⟩
        have HO2 := Lib.hid (own_base_le hown2 HB.out.size)
        have HB2 := Lib.hid (below_then HB.out HB.out.size hb2)
        clear hown2 hb2 hp
        go_wp2
        go_roundw
        case rel =>
          refine ⟨k + 1, by omega, by go_num, ?_, ?_, HB2.out⟩
          · rw [htk.out]; intro z hz; rcases List.mem_append.1 hz with h | h
            · exact HG.out z h
            · rw [List.mem_singleton] at h; rw [h]; exact hgx
          · rw [htk.out, encs_snoc]; exact HO2.out
        case measure => simp [intOf]; omega
      · have hgx' : Spec.good x = false := by simpa using hgx
        rw [hgx']
        have hno : ¬ AllGood l := fun h => hgx (h x (by rw [← HX.out]; exact mem_getD l k (by rw [HL.out]; exact hlt)))
        have HN := Lib.hid hno
        clear hno
        go_wp2
        go_ret2
        refine ⟨.slice none 0 0, ?_, ?_, HB.out⟩
        · unfold writeOut; rw [if_neg HN.out]; rfl
        · unfold writeOut; rw [if_neg HN.out]; exact World.ownsRow_nil _ _ _ _
    · obtain rfl : k = n := by omega
      have hall := Lib.hid (show l.take k = l from List.take_of_length_le (by rw [HL.out]; exact Nat.le_refl _))
      go_wp2
      go_ret2
      have hag : AllGood l := by rw [← hall.out]; exact HG.out
      refine ⟨.slice vA (Spec.encs (l.take k)).length vc, ?_, ?_, HB.out⟩
      · unfold writeOut; rw [if_pos hag]; rfl
      · unfold writeOut; rw [if_pos hag]
        have := HO.out
        have e := hall.out
        rw [e] at this ⊢
        exact this
end Go.Proofs.Ytpgfjgakhbnpkaa
