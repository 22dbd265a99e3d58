/- Contracts of the library's prefixes over a text's bytes, and of the lexer's number. Conditions: the lexer's block reads in memory; its place lies within the text. -/
import Derived.Test.YtiboikbccmfedaaAc
import Derived.Test.YtiboikbccmfedaaShelf
import Derived.Deep.QuietTactic
import Derived.BigQuiet
namespace Go.Proofs.Ytiboikbccmfedaa
open Go.RowKit

theorem prefix_map : ∀ p l : List UInt8, (p.map fun x => ((x.toNat : Nat) : Int)).isPrefixOf (l.map fun x => ((x.toNat : Nat) : Int)) = p.isPrefixOf l
  | [], _ => rfl
  | _ :: _, [] => rfl
  | a :: p, b :: l => by
    simp only [List.map_cons, List.isPrefixOf_cons_cons]
    rw [prefix_map p l]
    congr 1
    by_cases h : a = b
    · subst h; simp
    · rw [beq_eq_false_iff_ne.2 h]
      refine beq_eq_false_iff_ne.2 fun e => h ?_
      exact UInt8.toNat_inj.1 (by omega)
theorem extract_end (s : ByteArray) (i : Nat) (hi : i ≤ s.size) : s.extract i s.size = strOfNums ((nb s).drop i) := by
  have := extract_nb s i (s.size - i)
  rw [show i + (s.size - i) = s.size from by omega, List.take_of_length_le (by rw [List.length_drop, nb_length]; exact Nat.le_refl _)] at this
  exact this
theorem nb_str (l : List Int) (h : Spec.Bytes l) : nb (strOfNums l) = l := by
  unfold nb
  rw [strOfNums_data, List.map_map]
  conv => rhs; rw [← List.map_id l]
  apply List.map_congr_left
  intro x hx
  have := h x hx
  simp only [Function.comp_apply, UInt8.toNat_ofNat', id_eq]
  omega
theorem nb_rest (s : ByteArray) (i : Nat) (hi : i ≤ s.size) : nb (s.extract i s.size) = (nb s).drop i := by
  rw [extract_end s i hi, nb_str _ (fun x hx => nb_bytes s x (List.mem_of_mem_drop hx))]
theorem rest_prefix (s p : ByteArray) (i : Nat) (hi : i ≤ s.size) : Lib.hasPrefix (s.extract i s.size).data.toList p.data.toList = Kx.pre (nb p) (nb s) i := by
  unfold Lib.hasPrefix Kx.pre
  rw [← nb_rest s i hi]
  exact (prefix_map _ _).symm
theorem has_any (s p : ByteArray) (i : Nat) (hi : i ≤ s.size) (w : World) : Calls Try.prog 13 #[.string (s.extract i s.size), .string p] w fun e w' => e = .returned (.bool (Kx.pre (nb p) (nb s) i)) ∧ w' = w := by
  have := Try.strings_HasPrefix (s.extract i s.size) p w
  rw [rest_prefix s p i hi] at this
  exact this
/-- the rest behind the sign of numbers below 0 -/
theorem cut_any (s : ByteArray) (i : Nat) (hi : i ≤ s.size) : ∃ r, nb r = (nb s).drop (Kx.start (nb s) i) ∧ r.size = s.size - Kx.start (nb s) i ∧ ∀ w, Calls Try.prog 33 #[.string (s.extract i s.size), .string ⟨#[194, 175]⟩] w fun e w' => e = .returned (.tuple #[.string r, .bool (Kx.pre Kx.bar (nb s) i)]) ∧ w' = w := by
  have hp := rest_prefix s ⟨#[194, 175]⟩ i hi
  rw [show nb ⟨#[194, 175]⟩ = Kx.bar from rfl] at hp
  refine ⟨⟨(Lib.trimPrefix (s.extract i s.size).data.toList (⟨#[194, 175]⟩ : ByteArray).data.toList).toArray⟩, ?_, ?_, fun w => ?_⟩
  · unfold Lib.trimPrefix Kx.start
    rw [hp]
    cases Kx.pre Kx.bar (nb s) i
    · exact nb_rest s i hi
    · show ((((s.extract i s.size).data.toList.drop 2).toArray).toList.map fun x => ((x.toNat : Nat) : Int)) = (nb s).drop (i + 2)
      rw [← List.drop_drop, ← nb_rest s i hi]
      simp [nb, List.map_drop]
  · have hl : nb ⟨(Lib.trimPrefix (s.extract i s.size).data.toList (⟨#[194, 175]⟩ : ByteArray).data.toList).toArray⟩ = (nb s).drop (Kx.start (nb s) i) := by
      unfold Lib.trimPrefix Kx.start
      rw [hp]
      cases Kx.pre Kx.bar (nb s) i
      · exact nb_rest s i hi
      · show ((((s.extract i s.size).data.toList.drop 2).toArray).toList.map fun x => ((x.toNat : Nat) : Int)) = (nb s).drop (i + 2)
        rw [← List.drop_drop, ← nb_rest s i hi]
        simp [nb, List.map_drop]
    rw [← nb_length, hl, List.length_drop, nb_length]
  · have := Try.strings_CutPrefix (s.extract i s.size) ⟨#[194, 175]⟩ w
    rw [hp] at this
    exact this

theorem dig_is {c : Int} {b : Bool} (h : Kx.dig c = b) (W : World) : Calls Try.prog 34 #[.int .u8 c] W fun e w' => e = .returned (.bool b) ∧ w' = W := by
  subst h
  exact dig_any c W
def NumTo (b : Bool) (w : World) (e : Ending) (w' : World) : Prop := e = .returned (.bool b) ∧ ∃ n, w' = w.drewN n
set_option maxRecDepth 100000 in
set_option maxHeartbeats 2000000 in
theorem number_any (g : Nat) (s : ByteArray) (v : Value) (i : Nat) (er fp : Int) (w : World) (hg : w.heap[g]? = some (acell s v i er fp)) (hi : i ≤ s.size) :
    Calls Try.prog 22 #[.pointer (some ⟨g, 0, none⟩)] w (NumTo (Kx.begins (nb s) i) w) := by
  have c0 := blk_cell hg 0
  have c1 := blk_cell hg 1
  clear hg
  obtain ⟨r, hr1, hr2, hcut⟩ := cut_any s i hi
  have hb : Kx.begins (nb s) i = Kx.dig (Kx.gt (nb s) (Kx.start (nb s) i)) := rfl
  have hgr : Kx.gt (nb r) 0 = Kx.gt (nb s) (Kx.start (nb s) i) := by
    have := Kx.gt_drop (nb s) (Kx.start (nb s) i) 0
    rw [← hr1] at this
    exact this.symm
  have hst : Kx.pre Kx.bar (nb s) i = false → Kx.start (nb s) i = i := fun h => by unfold Kx.start; rw [h]; rfl
  rw [hb]
  have HC := Lib.hid hcut
  have HGR := Lib.hid hgr
  have HST := Lib.hid hst
  clear hr1 hb hcut hgr hst
  generalize Kx.start (nb s) i = j at *
  generalize Kx.pre Kx.bar (nb s) i = p at *
  by_cases h0 : j < s.size
  · have hr0 : 0 < r.size := by omega
    have hd0 : decide (0 < r.size) = true := decide_eq_true hr0
    clear hr2
    have hx := Lib.hid ((byte_gt r 0 hr0).trans HGR.out)
    obtain ⟨b, hb⟩ : ∃ b, r[0] = b := ⟨_, rfl⟩
    rw [hb] at hx
    have hx' := hx.out
    generalize hc : Kx.gt (nb s) j = c at *
    cases hq : Kx.dig c with
    | false =>
      have HDG := Lib.hid (dig_is (c := (b.toNat : Int)) (by rw [hx', hq]))
      clear hx'
      go_enter Try.func22, Try.ntmps22
      go_wp2
      go_quiet ((go_at_call 33; exact Calls.quiet_of_same (HC.out _)))
      go_wp2
      have d0 := (show (w.drewN nq).cell? ⟨g, 0, none⟩ = _ from c0)
      have d1 := (show (w.drewN nq).cell? ⟨g, 1, none⟩ = _ from c1)
      obtain ⟨w1, hw1⟩ : ∃ w1, w.drewN nq = w1 := ⟨_, rfl⟩
      rw [hw1] at d0 d1 ⊢
      have HW1 := Lib.hid hw1
      clear hw1 c0 c1
      go_quiet ((go_at_call 34; exact Calls.quiet_of_same (HDG.out _)))
      go_wp2
      refine bodyPost_ret (v := .bool false) (by simp [results, Try.results22, go_sem]) rfl ?_
      exact ⟨rfl, _, by rw [← HW1.out]; exact World.drewN_drewN _ _ _⟩
    | true =>
      have HDG := Lib.hid (dig_is (c := (b.toNat : Int)) (by rw [hx', hq]))
      clear hx'
      cases p with
      | true =>
        go_enter Try.func22, Try.ntmps22
        go_wp2
        go_quiet ((go_at_call 33; exact Calls.quiet_of_same (HC.out _)))
        go_wp2
        have d0 := (show (w.drewN nq).cell? ⟨g, 0, none⟩ = _ from c0)
        have d1 := (show (w.drewN nq).cell? ⟨g, 1, none⟩ = _ from c1)
        obtain ⟨w1, hw1⟩ : ∃ w1, w.drewN nq = w1 := ⟨_, rfl⟩
        rw [hw1] at d0 d1 ⊢
        have HW1 := Lib.hid hw1
        clear hw1 c0 c1
        go_quiet ((go_at_call 34; exact Calls.quiet_of_same (HDG.out _)))
        go_wp2
        refine bodyPost_ret (v := .bool true) (by simp [results, Try.results22, go_sem]) rfl ?_
        exact ⟨rfl, _, by rw [← HW1.out]; exact World.drewN_drewN _ _ _⟩
      | false =>
        have hji : j = i := HST.out rfl
        have hil : i < s.size := by omega
        have hy : ((s[i].toNat : Nat) : Int) = c := (byte_gt s i hil).trans (by rw [← hji]; exact hc)
        obtain ⟨b2, hb2⟩ : ∃ b2, s[i] = b2 := ⟨_, rfl⟩
        rw [hb2] at hy
        have hdi : decide (i < s.size) = true := decide_eq_true (by omega)
        have HDH := Lib.hid (dig_is (c := (b2.toNat : Int)) (by rw [hy, hq]))
        clear hy hji
        go_enter Try.func22, Try.ntmps22
        go_wp2
        go_quiet ((go_at_call 33; exact Calls.quiet_of_same (HC.out _)))
        go_wp2
        have d0 := (show (w.drewN nq).cell? ⟨g, 0, none⟩ = _ from c0)
        have d1 := (show (w.drewN nq).cell? ⟨g, 1, none⟩ = _ from c1)
        obtain ⟨w1, hw1⟩ : ∃ w1, w.drewN nq = w1 := ⟨_, rfl⟩
        rw [hw1] at d0 d1 ⊢
        have HW1 := Lib.hid hw1
        clear hw1 c0 c1
        go_quiet (first | (go_at_call 34; exact Calls.quiet_of_same (HDG.out _)) | (go_at_call 34; exact Calls.quiet_of_same (HDH.out _)))
        go_wp2
        refine bodyPost_ret (v := .bool true) (by simp [results, Try.results22, go_sem]) rfl ?_
        exact ⟨rfl, _, by rw [← HW1.out]; exact World.drewN_drewN _ _ _⟩
  · have hgz : Kx.gt (nb s) j = 0 := gt_past s j (by omega)
    have hr0 : r.size = 0 := by omega
    have hd0 : decide (0 < r.size) = false := decide_eq_false (by omega)
    rw [hgz, show Kx.dig 0 = false from rfl]
    clear hgz hr2 HGR
    go_enter Try.func22, Try.ntmps22
    go_wp2
    go_quiet ((go_at_call 33; exact Calls.quiet_of_same (HC.out _)))
    go_wp2
    have d0 := (show (w.drewN nq).cell? ⟨g, 0, none⟩ = _ from c0)
    have d1 := (show (w.drewN nq).cell? ⟨g, 1, none⟩ = _ from c1)
    obtain ⟨w1, hw1⟩ : ∃ w1, w.drewN nq = w1 := ⟨_, rfl⟩
    rw [hw1] at d0 d1 ⊢
    have HW1 := Lib.hid hw1
    clear hw1 c0 c1
    go_quiet (fail)
    go_wp2
    refine bodyPost_ret (v := .bool false) (by simp [results, Try.results22, go_sem]) rfl ?_
    exact ⟨rfl, _, by rw [← HW1.out]; exact World.drewN_drewN _ _ _⟩
end Go.Proofs.Ytiboikbccmfedaa
