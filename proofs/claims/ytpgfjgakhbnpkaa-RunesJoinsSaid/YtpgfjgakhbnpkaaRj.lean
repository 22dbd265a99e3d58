/- The walks of RunesWrites and RunesBack. Conditions: the slice reads in memory, within the row's reach. -/
import Derived.Test.YtpgfjgakhbnpkaaRi
namespace Go.Proofs.Ytpgfjgakhbnpkaa
open Go.RowKit

theorem conv_ownv {w : World} {base n : Nat} {e' : TypeId} {v : Value} {xs : List Int} (h : w.ownsRow base e' 1 v n (nums .u8 xs)) : (convert 23 9 v).run Try.prog w = .ok (.string (strOfNums xs)) w := by
  rcases Nat.eq_zero_or_pos n with hn | hn
  · subst hn
    obtain rfl : xs = [] := by have := h.1; rw [nums_length] at this; exact List.length_eq_zero_iff.1 (by omega)
    rcases h.2 with ⟨rfl, _⟩ | ⟨g, cap, cur, rfl, _⟩
    · exact run_convert_bytes_nil w 23 5 Try.underlying23 Try.underlying5 0 0 9 Try.underlying9
    · exact run_convert_bytes_arg w 23 5 Try.underlying23 Try.underlying5 g 0 0 cap [] rfl (fun i hi => absurd hi (Nat.not_lt_zero i)) 9 Try.underlying9
  · obtain ⟨g, cap, rfl, _⟩ := own_form_pos h hn
    exact conv_own Try.underlying23 Try.underlying5 Try.underlying9 h hn

set_option maxRecDepth 100000 in
set_option maxHeartbeats 2000000 in
theorem writes_walk (A : Option Addr) (n c : Nat) (zs : List Int) (z : Int) (_wz : (Lit.int .i64 z).wf = true) (w : World) (hI : IsRow .i64 w A n c zs) (y : n * 8 ≤ 140737488351232) :
    Calls Try.prog 3 #[.slice A n c, .int .i64 z] w (Works w) := by
  obtain ⟨hr, hl, hc, hA, _⟩ := hI.row
  generalize zs.take n = l at hr hl
  have HR := Lib.hid hr
  have HL := Lib.hid hl
  clear hI hr hl hA
  go_enter Try.func3, Try.ntmps3
  go_wp2_with fail
  refine (write_any A n c l w HR.out HL.out (by omega)).mono ?_
  rintro e w1 ⟨v1, rfl, ho1, hb1⟩
  obtain ⟨A1, c1, rfl, _⟩ := own_slice ho1
  have HO1 := Lib.hid ho1
  have HB1 := Lib.hid hb1
  have HR1 := Lib.hid (HR.out.below hb1)
  clear ho1 hb1
  go_wp2_with fail
  refine (rwrite_any A n c l w1 HR1.out HL.out (by omega)).mono ?_
  rintro e w2 ⟨v2, rfl, ho2, hb2⟩
  obtain ⟨A2, c2, rfl, _⟩ := own_slice ho2
  have HO2 := Lib.hid ho2
  have HO1' := Lib.hid (own_below HO1.out hb2)
  have HB2 := Lib.hid (below_then HB1.out HB1.out.size hb2)
  clear ho2 hb2
  have h1 := conv_ownv HO1'.out
  have h2 := conv_ownv HO2.out
  generalize strOfNums (writeOut l).1 = s at h1 h2
  have h3 : (s.toList == s.toList) = true := by simp
  generalize (writeOut l).2 = er
  have h4 : (er == er) = true := by simp
  go_wp2_with fail
  refine (good_any z _).mono ?_
  rintro e w3 ⟨rfl, rfl⟩
  generalize hg : Spec.good z = gz
  have HG := Lib.hid hg
  clear hg
  go_wp2_with fail
  refine (rgood_any z _).mono ?_
  rintro e w3 ⟨rfl, rfl⟩
  rw [HG.out]
  have h5 : (gz == gz) = true := by simp
  go_wp2_with fail
  refine (works_any _).mono ?_
  rintro e w3 ⟨rfl, hb3⟩
  have HB3 := Lib.hid (below_then HB2.out HB2.out.size hb3)
  clear hb3
  go_wp2
  go_ret
  exact ⟨rfl, HB3.out⟩

theorem few_encs : ∀ (l : List Int), AllGood l → Few (Spec.encs l) l.length
  | [], _, [], _, _, _ => Nat.le_refl _
  | [], _, y :: ys, r, hy, h => by
    exfalso
    have h' : ([] : List Int) = Spec.enc y ++ (Spec.encs ys ++ r) := by simpa [Spec.encs] using h
    exact Spec.enc_ne y (List.append_eq_nil_iff.1 h'.symm).1
  | x :: l, _, [], _, _, _ => Nat.zero_le _
  | x :: l, hl, y :: ys, r, hy, h => by
    have h' : Spec.enc x ++ Spec.encs l = Spec.enc y ++ (Spec.encs ys ++ r) := by simpa [Spec.encs] using h
    obtain ⟨_, h2⟩ := Spec.enc_unique (hl x (by simp)) (hy y (by simp)) h'
    have := few_encs l (fun z hz => hl z (by simp [hz])) ys r (fun z hz => hy z (by simp [hz])) h2
    simp only [List.length_cons]
    omega

theorem encs_bytes (l : List Int) (h : AllGood l) : Spec.Bytes (Spec.encs l) := by
  intro x hx
  obtain ⟨y, hy, hxy⟩ := List.mem_flatMap.1 hx
  exact enc_bytes y (h y hy) x hxy

set_option maxRecDepth 100000 in
set_option maxHeartbeats 2000000 in
theorem back_walk (A : Option Addr) (n c : Nat) (zs : List Int) (w : World) (hI : IsRow .i64 w A n c zs) (y : n * 8 ≤ 140737488351232) :
    Calls Try.prog 5 #[.slice A n c] w (Works w) := by
  obtain ⟨hr, hl, hc, hA, _⟩ := hI.row
  generalize zs.take n = l at hr hl
  have HR := Lib.hid hr
  have HL := Lib.hid hl
  clear hI hr hl hA
  go_enter Try.func5, Try.ntmps5
  go_wp2_with fail
  refine (write_any A n c l w HR.out HL.out (by omega)).mono ?_
  rintro e w1 ⟨v1, rfl, ho1, hb1⟩
  by_cases hg : AllGood l
  · have hw : writeOut l = (Spec.encs l, 0) := by unfold writeOut; rw [if_pos hg]
    rw [hw] at ho1 ⊢
    obtain ⟨A1, c1, rfl, hc1, _, _, _, hrow⟩ := own_row ho1
    have HO1 := Lib.hid ho1
    have HB1 := Lib.hid hb1
    have HR1 := Lib.hid (HR.out.below hb1)
    have HW := Lib.hid hrow
    have HG := Lib.hid hg
    clear ho1 hb1 hrow hw hg
    dsimp only at hc1 ⊢
    generalize hm : (Spec.encs l).length = m at *
    have HM := Lib.hid hm
    clear hm
    go_wp2_with fail
    refine (read_any A1 m c1 (Spec.encs l) w1 n HW.out HM.out hc1 (encs_bytes l HG.out) (by rw [← HL.out]; exact few_encs l HG.out) (by omega)).mono ?_
    rintro e w2 ⟨v2, xs, a2, e2, rfl, hrd, ho2, hb2⟩
    obtain ⟨rfl, rfl, rfl⟩ := readIs_unique hrd (.inl ⟨rfl, rfl, HG.out, rfl⟩)
    obtain ⟨A2, c2, rfl, _, _, hl2, _, hrow2⟩ := own_row ho2
    have HR2 := Lib.hid (HR1.out.below hb2)
    have HW2 := Lib.hid hrow2
    have HB2 := Lib.hid (below_then HB1.out HB1.out.size hb2)
    clear ho2 hb2 hrd hrow2 hl2
    go_wp2_with fail
    refine (same_any A A2 n xs.length c c2 xs xs w2 HR2.out HW2.out HL.out rfl).mono ?_
    rintro e w3 ⟨rfl, hb3⟩
    rw [decide_eq_true rfl]
    have HB3 := Lib.hid (below_then HB2.out HB2.out.size hb3)
    clear hb3
    go_wp2_with fail
    refine (works_any _).mono ?_
    rintro e w4 ⟨rfl, hb4⟩
    have HB4 := Lib.hid (below_then HB3.out HB3.out.size hb4)
    clear hb4
    go_wp2
    go_ret
    exact ⟨rfl, HB4.out⟩
  · have hw : writeOut l = ([], 3) := by unfold writeOut; rw [if_neg hg]
    rw [hw] at ho1 ⊢
    obtain ⟨A1, c1, rfl, _⟩ := own_slice ho1
    have HB1 := Lib.hid hb1
    clear ho1 hb1 hw hg
    dsimp only
    go_wp2_with fail
    refine (works_any _).mono ?_
    rintro e w4 ⟨rfl, hb4⟩
    have HB4 := Lib.hid (below_then HB1.out HB1.out.size hb4)
    clear hb4
    go_wp2
    go_ret
    exact ⟨rfl, HB4.out⟩
end Go.Proofs.Ytpgfjgakhbnpkaa
