/- The walks of RunesReads and RunesOne. Conditions: the slice reads in memory and has at most 1048576 bytes. -/
import Derived.Test.YtpgfjgakhbnpkaaRj
namespace Go.Proofs.Ytpgfjgakhbnpkaa
open Go.RowKit

theorem wf_bytes {l : List Int} (h : ∀ x ∈ l, (Lit.int .u8 x).wf = true) : Spec.Bytes l := fun x hx => bounds_u8 (h x hx)

set_option maxRecDepth 100000 in
set_option maxHeartbeats 2000000 in
theorem reads_walk (A : Option Addr) (n c : Nat) (zs : List Int) (w : World) (hI : IsRow .u8 w A n c zs) (y : n ≤ 1048576) :
    Calls Try.prog 4 #[.slice A n c] w (Works w) := by
  obtain ⟨hr, hl, hc, hA, hwf⟩ := hI.row
  generalize zs.take n = l at hr hl hwf
  have HR := Lib.hid hr
  have HL := Lib.hid hl
  have HBy := Lib.hid (wf_bytes hwf)
  have HF := Lib.hid (show Few l n by rw [← hl]; exact few_len l)
  clear hI hr hl hA hwf
  go_enter Try.func4, Try.ntmps4
  go_wp2_with fail
  refine (read_any A n c l w n HR.out HL.out hc HBy.out HF.out (by omega)).mono ?_
  rintro e w1 ⟨v1, xs, a1, e1, rfl, hrd1, ho1, hb1⟩
  obtain ⟨A1, c1, rfl, _, _, _, _, hrow1⟩ := own_row ho1
  have HO1 := Lib.hid hrow1
  have HB1 := Lib.hid hb1
  have HR1 := Lib.hid (HR.out.below hb1)
  clear ho1 hb1 hrow1
  go_wp2_with fail
  refine (rread_any A n c l w1 n HR1.out HL.out hc HBy.out HF.out (by omega)).mono ?_
  rintro e w2 ⟨v2, xs2, a2, e2, rfl, hrd2, ho2, hb2⟩
  obtain ⟨rfl, rfl, rfl⟩ := readIs_unique hrd1 hrd2
  obtain ⟨A2, c2, rfl, _, _, _, _, hrow2⟩ := own_row ho2
  have HO2 := Lib.hid hrow2
  have HO1' := Lib.hid (HO1.out.below hb2)
  have HB2 := Lib.hid (below_then HB1.out HB1.out.size hb2)
  have HR2 := Lib.hid (HR1.out.below hb2)
  clear ho2 hb2 hrow2 hrd1 hrd2
  go_wp2_with fail
  refine (one_any A n c l w2 HR2.out HL.out hc HBy.out).mono ?_
  rintro e w3 ⟨rfl, hb3⟩
  have HO13 := Lib.hid (HO1'.out.below hb3)
  have HO23 := Lib.hid (HO2.out.below hb3)
  have HB3 := Lib.hid (below_then HB2.out HB2.out.size hb3)
  have HR3 := Lib.hid (HR2.out.below hb3)
  clear hb3
  generalize hp : Spec.one l = p
  have HP := Lib.hid hp
  clear hp
  go_wp2_with fail
  refine (rone_any A n c l w3 HR3.out HL.out hc HBy.out).mono ?_
  rintro e w4 ⟨rfl, hb4⟩
  rw [HP.out]
  have HO14 := Lib.hid (HO13.out.below hb4)
  have HO24 := Lib.hid (HO23.out.below hb4)
  have HB4 := Lib.hid (below_then HB3.out HB3.out.size hb4)
  clear hb4
  go_wp2_with fail
  refine (same_any A1 A2 xs.length xs.length c1 c2 xs xs w4 HO14.out HO24.out rfl rfl).mono ?_
  rintro e w5 ⟨rfl, hb5⟩
  rw [decide_eq_true rfl]
  have HB5 := Lib.hid (below_then HB4.out HB4.out.size hb5)
  clear hb5
  obtain ⟨p1, p2⟩ := p
  have q1 : (a1 == a1) = true := by simp
  have q2 : (e1 == e1) = true := by simp
  have q3 : (p1 == p1) = true := by simp
  have q4 : (p2 == p2) = true := by simp
  dsimp only
  go_wp2_with fail
  refine (works_any _).mono ?_
  rintro e w6 ⟨rfl, hb6⟩
  have HB6 := Lib.hid (below_then HB5.out HB5.out.size hb6)
  clear hb6
  go_wp2
  go_ret
  exact ⟨rfl, HB6.out⟩

theorem conv_arg {w : World} {n c : Nat} {A : Option Addr} {xs : List Int} (h : RowAt .u8 w A xs) (hl : xs.length = n) (hA : A = none → n = 0 ∧ c = 0) (h0 : n = 0 → ∃ s, (convert 23 9 (.slice A n c)).run Try.prog w = .ok (.string s) w ∧ s = strOfNums []) :
    (convert 23 9 (.slice A n c)).run Try.prog w = .ok (.string (strOfNums xs)) w := by
  rcases Nat.eq_zero_or_pos n with hn | hn
  · obtain ⟨s, hs, rfl⟩ := h0 hn
    obtain rfl : xs = [] := List.length_eq_zero_iff.1 (by omega)
    exact hs
  · exact conv_row Try.underlying23 Try.underlying5 Try.underlying9 h hl hA hn

/-- no bytes, wherever they lie -/
theorem conv_empty (w : World) (A : Option Addr) (c : Nat) : (convert 23 9 (.slice A 0 c)).run Try.prog w = .ok (.string (strOfNums [])) w := by
  cases A with
  | none => exact run_convert_bytes_nil w 23 5 Try.underlying23 Try.underlying5 0 c 9 Try.underlying9
  | some a =>
    have hl : (loadCells a 0).run Try.prog w = .ok ([].map (Value.int .u8)).toArray w := by
      simpa using run_loadCells_list (P := Try.prog) w a [] (fun j v hj => by simp at hj)
    rw [run_convert_bytes_string w 23 9 5 _ 0 c Try.underlying23 Try.underlying5 Try.underlying9, run_bytesToString w _ 0 c [] hl]
    rfl
end Go.Proofs.Ytpgfjgakhbnpkaa
