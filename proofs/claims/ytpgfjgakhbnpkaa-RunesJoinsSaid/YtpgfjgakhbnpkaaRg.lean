/- Contract of the reference's One: the first sign of any bytes. Conditions: the bytes read in memory. -/
import Derived.Test.YtpgfjgakhbnpkaaRf
import Derived.Laws.BytesArg
import Derived.RegionCalls
import Derived.Deep.RegionWith
import Derived.BigRegion
import Derived.BigQuiet
import Derived.Deep.QuietTactic
namespace Go.Proofs.Ytpgfjgakhbnpkaa
open Go.RowKit

/-- bytes as a string -/
theorem conv_row {P : Program} {w : World} {n c : Nat} {src dst e : TypeId} {A : Option Addr} {xs : List Int} (hs : P.underlying src = some (.slice e)) (he : P.underlying e = some (.int .u8)) (hd : P.underlying dst = some .string)
    (h : RowAt .u8 w A xs) (hl : xs.length = n) (hA : A = none → n = 0 ∧ c = 0) (hp : 0 < n) : (convert src dst (.slice A n c)).run P w = .ok (.string (strOfNums xs)) w := by
  obtain ⟨b, off, rfl, hc⟩ := h.2 (by omega)
  exact run_convert_bytes_arg w src e hs he b off n c xs hl (fun i hi => hc i (by omega)) dst hd

theorem conv_own {P : Program} {w : World} {base n : Nat} {e' src dst e : TypeId} {g c : Nat} {xs : List Int} (hs : P.underlying src = some (.slice e)) (he : P.underlying e = some (.int .u8)) (hd : P.underlying dst = some .string)
    (h : w.ownsRow base e' 1 (.slice (some ⟨g, 0, none⟩) n c) n (nums .u8 xs)) (hp : 0 < n) : (convert src dst (.slice (some ⟨g, 0, none⟩) n c)).run P w = .ok (.string (strOfNums xs)) w := by
  obtain ⟨A, c', e1, _, _, hl, _, hr⟩ := own_row h
  cases e1
  exact conv_row hs he hd hr hl (fun h => by simp at h) hp

theorem enc_bytes (v : Int) (h : Spec.good v = true) : Spec.Bytes (Spec.enc v) := by
  rcases Spec.enc_cases h (l := Spec.enc v ++ []) rfl with ⟨_, _, _, ke⟩ | ⟨c, d, _, _, _, _, hm, _, _, _, ke⟩ | ⟨c, d, f, _, _, _, _, _, _, hm, _, _, _, ke⟩ | ⟨c, d, f, g, _, _, _, _, _, _, _, _, hm, _, _, ke⟩ <;> rw [ke] <;> intro x hx <;> simp at hx <;> omega

theorem str_inj {xs ys : List Int} (hx : Spec.Bytes xs) (hy : Spec.Bytes ys) (h : (strOfNums xs).toList = (strOfNums ys).toList) : xs = ys := by
  have h1 : xs.map (fun n => UInt8.ofNat n.toNat) = ys.map (fun n => UInt8.ofNat n.toNat) := by
    rw [← strOfNums_data, ← strOfNums_data]
    simpa [ByteArray.toList_eq] using h
  have h2 : ∀ (l : List Int), Spec.Bytes l → (l.map (fun n => UInt8.ofNat n.toNat)).map (fun b => ((b.toNat : Nat) : Int)) = l := by
    intro l hl
    rw [List.map_map]
    refine (List.map_congr_left fun x hx => ?_).trans (List.map_id l)
    have := hl x hx
    simp [UInt8.toNat_ofNat']
    omega
  rw [← h2 xs hx, ← h2 ys hy, h1]

theorem one_is {l : List Int} {p : Int × Int} (hb : Spec.Bytes l) (h : Spec.IsOne l p) : Spec.one l = p := by
  obtain ⟨h1, h2, r, h3⟩ := h
  rcases Spec.one_spec l hb with ⟨k1, k2, r', k3⟩ | ⟨_, k⟩
  · obtain ⟨e, _⟩ := Spec.enc_unique k1 h1 (k3.symm.trans h3)
    exact Prod.ext e (by rw [k2, h2, e])
  · exact absurd ⟨r, h3⟩ (k _ h1)
theorem one_none {l : List Int} (hb : Spec.Bytes l) (h : Spec.NoOne l) : Spec.one l = (0, 0) := by
  rcases Spec.one_spec l hb with ⟨k1, _, k3⟩ | ⟨k, _⟩
  · exact absurd k3 (h _ k1)
  · exact k

/-- no sign of fewer bytes stands at the head -/
def NoShort (l : List Int) (k : Nat) : Prop := ∀ m r, Spec.good m = true → l = Spec.enc m ++ r → k ≤ (Spec.enc m).length

theorem short_next {l : List Int} {k : Nat} (h : NoShort l k) (hn : ¬ (Spec.good (valueOf (l.take k)) = true ∧ (Spec.enc (valueOf (l.take k))).length = k ∧ Spec.enc (valueOf (l.take k)) = l.take k)) : NoShort l (k + 1) := by
  intro m r hm hl
  have h1 := h m r hm hl
  rcases Nat.lt_or_ge k (Spec.enc m).length with h2 | h2
  · exact h2
  · exfalso
    have hk : (Spec.enc m).length = k := by omega
    have ht : l.take k = Spec.enc m := by rw [hl, ← hk, List.take_left]
    rw [ht, valueOf_enc m hm] at hn
    exact hn ⟨hm, hk, rfl⟩

set_option maxRecDepth 100000 in
set_option maxHeartbeats 4000000 in
theorem rone_any (A : Option Addr) (n c : Nat) (l : List Int) (w : World) (hr : RowAt .u8 w A l) (hl : l.length = n) (hn : n ≤ c) (hb : Spec.Bytes l) :
    Calls Try.prog 16 #[.slice A n c] w (OneTo l w) := by
  have HR := Lib.hid hr
  have HL := Lib.hid hl
  have HBy := Lib.hid hb
  have hn63 : n ≤ 9223372036854775807 := by rw [← hl]; exact hr.1
  clear hr hl hb
  go_enter Try.func16, Try.ntmps16
  go_wp2
  go_loopw [4] (fun i wr => ∃ k : Nat, 1 ≤ k ∧ k ≤ 5 ∧ i = .int .i64 k ∧ NoShort l k ∧ Below w.heap.size w wr) (fun i _ => 5 - (intOf i).toNat)
  case atStart => exact ⟨1, by omega, by omega, rfl, fun m r _ _ => (enc_len m).1, Below.refl _ _⟩
  case round =>
    obtain ⟨k, hk1, hk5, rfl, hno, hbel⟩ := hrel
    have HN := Lib.hid hno
    have HB := Lib.hid hbel
    clear hno hbel
    by_cases hlt : k ≤ 4 ∧ k ≤ n
    · obtain ⟨hk4, hkn⟩ := hlt
      have hbt : Spec.Bytes (l.take k) := fun x hx => HBy.out x (List.mem_of_mem_take hx)
      have hrt := Lib.hid ((HR.out.take k).below HB.out)
      have hlt := Lib.hid (show (l.take k).length = k by rw [List.length_take, HL.out]; omega)
      have HBt := Lib.hid hbt
      clear hbt
      go_wp2_with fail
      refine (value_any _ _ _ _ _ hrt.out hlt.out hk1 hk4 HBt.out).mono ?_
      rintro e w1 ⟨rfl, rfl⟩
      generalize hv : valueOf (l.take k) = v at *
      have HV := Lib.hid hv
      clear hv
      go_wp2_with fail
      obtain ⟨b, off, rfl, _⟩ := HR.out.2 (by rw [HL.out]; omega)
      by_cases hg : Spec.good v = true
      · by_cases hw : (Spec.enc v).length = k
        · have hconvA := Lib.hid (fun (W : World) (hW : Below w.heap.size w W) => conv_row (P := Try.prog) (src := 23) (dst := 9) (e := 5) (n := k) (c := c) Try.underlying23 Try.underlying5 Try.underlying9 ((HR.out.take k).below hW) hlt.out (fun h => by simp at h) hk1)
          have hcd := hconvA.out wr.drew HB.out.drew
          have hbE : Spec.Bytes (Spec.enc v) := enc_bytes v hg
          by_cases hE : Spec.enc v = l.take k
          · have hbt : ((strOfNums (Spec.enc v)).toList == (strOfNums (l.take k)).toList) = true := by rw [hE]; simp
            have HE := Lib.hid hE
            clear hE
            generalize hsv : strOfNums (l.take k) = sv at *
            generalize hsu : strOfNums (Spec.enc v) = su at *
            have HSU := Lib.hid hsu
            clear hsv hsu
            go_region_with
              (first | (go_at_call 11; refine (rgood_any v _).mono ?_; rintro e w2 ⟨rfl, rfl⟩; rw [hg]) | (go_at_call 22; refine (width_any v _).mono ?_; rintro e w2 ⟨rfl, rfl⟩; rw [hw]) | (go_at_call 19; refine (rput_any v _ hg).mono ?_; rintro e w3 ⟨pv, rfl, hown3, hb3⟩; obtain ⟨g, cap, rfl, hgl, hcs⟩ := own_form_pos hown3 (by rw [hw]; omega); have hcd3 := hconvA.out w3 (below_then HB.out.drew HB.out.drew.size hb3); have hcp := conv_own (P := Try.prog) (src := 23) (dst := 9) Try.underlying23 Try.underlying5 Try.underlying9 hown3 (by rw [hw]; omega); rw [hw, HSU.out] at hcp))
            all_goals
              have hb5 := below_then HB.out.drew HB.out.drew.size hb3
              have HB5 := Lib.hid hb5
              have hone := one_is (p := (v, (k : Int))) HBy.out ⟨hg, by rw [hw], l.drop k, by rw [HE.out, List.take_append_drop]⟩
              have HON := Lib.hid hone
              clear hone
              clear hb5 hb3 hown3 hcp hcd3 hcs
              go_wp2
              go_ret2
              refine ⟨?_, HB5.out⟩
              rw [HON.out]
              rfl
          · have hbt : ((strOfNums (Spec.enc v)).toList == (strOfNums (l.take k)).toList) = false := by simpa using fun h => hE (str_inj hbE HBt.out h)
            have HE := Lib.hid hE
            clear hE
            generalize hsv : strOfNums (l.take k) = sv at *
            generalize hsu : strOfNums (Spec.enc v) = su at *
            have HSU := Lib.hid hsu
            clear hsv hsu
            go_region_with
              (first | (go_at_call 11; refine (rgood_any v _).mono ?_; rintro e w2 ⟨rfl, rfl⟩; rw [hg]) | (go_at_call 22; refine (width_any v _).mono ?_; rintro e w2 ⟨rfl, rfl⟩; rw [hw]) | (go_at_call 19; refine (rput_any v _ hg).mono ?_; rintro e w3 ⟨pv, rfl, hown3, hb3⟩; obtain ⟨g, cap, rfl, hgl, hcs⟩ := own_form_pos hown3 (by rw [hw]; omega); have hcd3 := hconvA.out w3 (below_then HB.out.drew HB.out.drew.size hb3); have hcp := conv_own (P := Try.prog) (src := 23) (dst := 9) Try.underlying23 Try.underlying5 Try.underlying9 hown3 (by rw [hw]; omega); rw [hw, HSU.out] at hcp))
            all_goals
              have hb5 := below_then HB.out.drew HB.out.drew.size hb3
              have HB5 := Lib.hid hb5
              have hnx := short_next HN.out (fun h => HE.out (by rw [HV.out] at h; exact h.2.2))
              have HNX := Lib.hid hnx
              clear hnx
              clear hb5 hb3 hown3 hcp hcd3 hcs
              go_wp2
              go_roundw
              case rel => exact ⟨k + 1, by omega, by omega, by go_num, HNX.out, HB5.out⟩
              case measure => simp [intOf]; omega
        · have hw' : (((Spec.enc v).length : Int) == k) = false := by simp; omega
          go_quiet (first | (go_at_call 11; exact Calls.quiet_of_same ((rgood_any v _).mono (fun e w' ⟨h1, h2⟩ => ⟨by rw [h1, hg], h2.symm⟩))) | (go_at_call 22; exact Calls.quiet_of_same ((width_any v _).mono (fun e w' ⟨h1, h2⟩ => ⟨h1, h2.symm⟩))))
          have hnx := short_next HN.out (fun h => hw (by rw [HV.out] at h; exact h.2.1))
          have HNX := Lib.hid hnx
          clear hnx
          go_wp2
          go_roundw
          case rel => exact ⟨k + 1, by omega, by omega, by go_num, HNX.out, below_drewN HB.out _⟩
          case measure => simp [intOf]; omega
      · have hg' : Spec.good v = false := by simpa using hg
        go_quiet ((go_at_call 11; exact Calls.quiet_of_same ((rgood_any v _).mono (fun e w' ⟨h1, h2⟩ => ⟨by rw [h1, hg'], h2.symm⟩))))
        have hnx := short_next HN.out (fun h => hg (by rw [HV.out] at h; exact h.1))
        have HNX := Lib.hid hnx
        clear hnx
        go_wp2
        go_roundw
        case rel => exact ⟨k + 1, by omega, by omega, by go_num, HNX.out, below_drewN HB.out _⟩
        case measure => simp [intOf]; omega
    · have hnone : Spec.NoOne l := by
        intro m hm ⟨r, hlm⟩
        have h1 := HN.out m r hm hlm
        have h2 := (enc_len m).2
        have h3 : (Spec.enc m).length ≤ n := by rw [← HL.out, hlm, List.length_append]; omega
        omega
      have hone := Lib.hid (one_none HBy.out hnone)
      clear hnone
      rcases (by omega : k = 5 ∨ (k ≤ 4 ∧ n < k)) with h | ⟨h, h'⟩
      · subst h
        go_wp2
        go_ret2
        refine ⟨?_, HB.out⟩
        rw [hone.out]
        rfl
      · go_wp2
        go_ret2
        refine ⟨?_, HB.out⟩
        rw [hone.out]
        rfl
end Go.Proofs.Ytpgfjgakhbnpkaa
