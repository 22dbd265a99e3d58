/- The walk of RunesOne. Conditions: the slice reads in memory and has at most 1048576 bytes. -/
import Derived.Test.YtpgfjgakhbnpkaaRk
namespace Go.Proofs.Ytpgfjgakhbnpkaa
open Go.RowKit

set_option maxRecDepth 100000 in
set_option maxHeartbeats 2000000 in
theorem one_walk (A : Option Addr) (n c : Nat) (zs : List Int) (w : World) (hI : IsRow .u8 w A n c zs) (y : n ≤ 1048576) :
    Calls Try.prog 6 #[.slice A n c] w (Works w) := by
  obtain ⟨hr, hl, hc, hA, hwf⟩ := hI.row
  generalize zs.take n = l at hr hl hwf
  have HR := Lib.hid hr
  have HL := Lib.hid hl
  have HBy := Lib.hid (wf_bytes hwf)
  have HF := Lib.hid (show Few l n by rw [← hl]; exact few_len l)
  have HA := Lib.hid hA
  clear hI hr hl hA hwf
  go_enter Try.func6, Try.ntmps6
  go_wp2_with fail
  refine (read_any A n c l w n HR.out HL.out hc HBy.out HF.out (by omega)).mono ?_
  rintro e w1 ⟨v1, xs, a1, e1, rfl, hrd1, ho1, hb1⟩
  obtain ⟨A1, c1, rfl, _, _, _, _, hrow1⟩ := own_row ho1
  have HO1 := Lib.hid hrow1
  have HB1 := Lib.hid hb1
  have HR1 := Lib.hid (HR.out.below hb1)
  clear ho1 hb1 hrow1
  rcases hrd1 with ⟨rfl, rfl, hg, hle⟩ | ⟨rfl, rfl, ys, p, rfl, hp, hg, ht, hn⟩
  · have HE := Lib.hid hle
    have HG := Lib.hid hg
    have hxl : xs.length ≤ n := HF.out xs [] hg (by rw [List.append_nil]; exact hle)
    clear hle hg
    generalize hm : xs.length = m at *
    have HM := Lib.hid hm
    clear hm
    go_wp2_with fail
    refine (write_any A1 m c1 xs w1 HO1.out HM.out (by omega)).mono ?_
    rintro e w2 ⟨v2, rfl, ho2, hb2⟩
    have hw : writeOut xs = (Spec.encs xs, 0) := by unfold writeOut; rw [if_pos HG.out]
    rw [hw] at ho2 ⊢
    obtain ⟨A2, c2, rfl, _⟩ := own_slice ho2
    have h1 := conv_arg (HR1.out.below hb2) HL.out HA.out (fun h => by subst h; exact ⟨_, conv_empty w2 A c, rfl⟩)
    have h2 := conv_ownv ho2
    rw [HE.out] at h1
    have HB2 := Lib.hid (below_then HB1.out HB1.out.size hb2)
    clear ho2 hb2 hw
    generalize strOfNums (Spec.encs xs) = s at h1 h2
    have h3 : (s.toList == s.toList) = true := by simp
    dsimp only at h2 ⊢
    go_wp2_with fail
    refine (works_any _).mono ?_
    rintro e w3 ⟨rfl, hb3⟩
    have HB3 := Lib.hid (below_then HB2.out HB2.out.size hb3)
    clear hb3
    go_wp2
    go_ret
    exact ⟨rfl, HB3.out⟩
  · have HP : (p : Int) < n := by rw [HL.out] at hp; omega
    clear hg ht hn hp
    go_wp2_with fail
    refine (works_any _).mono ?_
    rintro e w3 ⟨rfl, hb3⟩
    have HB3 := Lib.hid (below_then HB1.out HB1.out.size hb3)
    clear hb3
    go_wp2
    go_ret
    exact ⟨rfl, HB3.out⟩
end Go.Proofs.Ytpgfjgakhbnpkaa
