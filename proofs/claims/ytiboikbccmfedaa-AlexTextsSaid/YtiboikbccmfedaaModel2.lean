/- The words of APL in plain mathematics, second part: each word ends behind its place and within the text; which faults there are. Conditions: none beyond each theorem's own. -/
import Derived.Test.YtiboikbccmfedaaModel
namespace Go.Proofs.Ytiboikbccmfedaa.Kx

theorem text_err : ∀ (f : Nat) (l : List Int) (fr i : Nat) (acc : List Int) (e : Int) (j : Nat), textAt f l fr i acc = .bad e j → e = 2 ∨ e = 3
  | 0, l, fr, i, acc, e, j, h => by simp only [textAt, Text.bad.injEq] at h; exact .inl h.1.symm
  | f + 1, l, fr, i, acc, e, j, h => by
    simp only [textAt] at h
    split at h
    · split at h
      · simp only [Text.bad.injEq] at h; exact .inr h.1.symm
      · split at h
        · cases h
        · split at h
          · exact text_err f _ _ _ _ _ _ h
          · split at h
            · simp only [Text.bad.injEq] at h; exact .inl h.1.symm
            · exact text_err f _ _ _ _ _ _ h
    · simp only [Text.bad.injEq] at h; exact .inl h.1.symm
theorem word_err {l : List Int} {i : Nat} {e : Int} {j : Nat} (h : wordAt l i = .bad e j) : e = 2 ∨ e = 3 := by
  unfold wordAt at h
  split at h
  · simp only [Word.bad.injEq] at h; exact .inr h.1.symm
  · split at h
    · split at h
      · simp only [Word.bad.injEq] at h; exact .inl h.1.symm
      · cases h
    · split at h
      · split at h
        · rename_i e' j' hq
          simp only [Word.bad.injEq] at h
          rw [← h.1]
          exact text_err _ _ _ _ _ _ _ hq
        · cases h
      · split at h
        · split at h
          · cases h
          · simp only [Word.bad.injEq] at h; exact .inl h.1.symm
        · split at h
          · simp only [Word.bad.injEq] at h; exact .inl h.1.symm
          · cases h

theorem nums_step : ∀ (f : Nat) (l : List Int) (i : Nat) (acc xs : List Int) (j : Nat), begins l i = true → numsAt f l i acc = .good xs j → i + 1 ≤ j ∧ j ≤ l.length
  | 0, l, i, acc, xs, j, _, h => by simp [numsAt] at h
  | f + 1, l, i, acc, xs, j, hb, h => by
    have hs := num_step hb
    simp only [numsAt] at h
    split at h
    · split at h
      · simp only [Nums.good.injEq] at h
        rw [← h.2]
        exact hs
      · rename_i hn
        have hb2 : begins l ((numAt l i).2.1 + span blank (l.drop (numAt l i).2.1)) = true := by
          cases hq : begins l ((numAt l i).2.1 + span blank (l.drop (numAt l i).2.1))
          · exact absurd (.inr hq) hn
          · rfl
        have := nums_step f l _ _ xs j hb2 h
        omega
    · cases h
theorem one_le {l : List Int} {i : Nat} (hi : i < l.length) (hb : Spec.Bytes l) (h : ¬ (Spec.one (l.drop i)).2 = 0) : 1 ≤ (Spec.one (l.drop i)).2.toNat ∧ i + (Spec.one (l.drop i)).2.toNat ≤ l.length := by
  have hbd : Spec.Bytes (l.drop i) := fun x hx => hb x (List.mem_of_mem_drop hx)
  rcases Spec.one_spec _ hbd with ⟨h1, h2, r, h3⟩ | ⟨h1, h2⟩
  · have hl : 1 ≤ (Spec.enc (Spec.one (l.drop i)).1).length := by unfold Spec.enc; split <;> (try split) <;> (try split) <;> simp
    have hlen : l.length - i = (Spec.enc (Spec.one (l.drop i)).1).length + r.length := by
      have := congrArg List.length h3
      rw [List.length_drop, List.length_append] at this
      exact this
    rw [h2, Int.toNat_natCast]
    omega
  · rw [h1] at h; exact absurd rfl h
theorem text_step : ∀ (f : Nat) (l : List Int) (fr i : Nat) (acc xs : List Int) (j : Nat), Spec.Bytes l → i ≤ l.length → textAt f l fr i acc = .good xs j → i + 1 ≤ j ∧ j ≤ l.length
  | 0, l, fr, i, acc, xs, j, _, _, h => by simp [textAt] at h
  | f + 1, l, fr, i, acc, xs, j, hb, hi, h => by
    simp only [textAt] at h
    split at h
    · rename_i hlt
      split at h
      · cases h
      · rename_i h0
        have h1 := one_le hlt hb h0
        split at h
        · simp only [Text.good.injEq] at h; omega
        · rename_i hn
          split at h
          · rename_i hc
            have h39 : gt l (i + 1) = 39 := Classical.byContradiction fun e => hn ⟨hc, e⟩
            have hlt2 : i + 1 < l.length := gt_lt (fun e => by omega)
            have := text_step f l fr (i + 2) _ xs j hb (by omega) h
            omega
          · split at h
            · cases h
            · have := text_step f l fr _ _ xs j hb h1.2 h
              omega
    · cases h
theorem find_pre {P : List Int × Int → Bool} {ws : List (List Int × Int)} {w : List Int × Int} (h : ws.find? P = some w) : P w = true ∧ w ∈ ws := ⟨List.find?_some h, List.mem_of_find?_eq_some h⟩
theorem fixed_ne : ∀ w ∈ fixedWords, w.1 ≠ [] := by decide
/-- a word that is always the same stands there -/
theorem fixed_stands {l : List Int} {i : Nat} {w : List Int × Int} (hb : Spec.Bytes l) (hi : i < l.length) (h0 : ¬ (Spec.one (l.drop i)).2 = 0) (h : fixedAt l i = some w) : w.1 ≠ [] ∧ i + w.1.length ≤ l.length ∧ (l.drop i).take w.1.length = w.1 := by
  unfold fixedAt at h
  split at h
  · rename_i w' hf
    obtain ⟨h1, h2⟩ := find_pre hf
    cases h
    have hne := fixed_ne _ h2
    have hle := (pre_le h1).resolve_right hne
    exact ⟨hne, hle, (List.prefix_iff_eq_take.1 (List.isPrefixOf_iff_prefix.1 h1)).symm⟩
  · have h1 := one_le hi hb h0
    simp only at h
    split at h
    · cases h
    · cases h
      have hl : ((l.drop i).take (Spec.one (l.drop i)).2.toNat).length = (Spec.one (l.drop i)).2.toNat := by
        rw [List.length_take, List.length_drop]; omega
      refine ⟨fun e => ?_, ?_, ?_⟩
      · have e' : ((l.drop i).take (Spec.one (l.drop i)).2.toNat) = [] := e
        rw [e'] at hl
        simp at hl
        omega
      · show i + ((l.drop i).take (Spec.one (l.drop i)).2.toNat).length ≤ l.length
        omega
      · show (l.drop i).take ((l.drop i).take (Spec.one (l.drop i)).2.toNat).length = _
        rw [hl]
theorem word_step {l : List Int} {i : Nat} {t : Tok} {j : Nat} (hb : Spec.Bytes l) (hi : i < l.length) (h : wordAt l i = .good t j) : i + 1 ≤ j ∧ j ≤ l.length ∧ t.at_ = i := by
  unfold wordAt at h
  split at h
  · cases h
  · rename_i h0
    split at h
    · rename_i hbg
      split at h
      · cases h
      · rename_i xs k hq
        simp only [Word.good.injEq] at h
        have := nums_step _ _ _ _ _ _ hbg hq
        rw [← h.2, ← h.1]
        exact ⟨this.1, this.2, rfl⟩
    · split at h
      · split at h
        · cases h
        · rename_i xs k hq
          simp only [Word.good.injEq] at h
          have := text_step _ _ _ _ _ _ _ hb (by omega) hq
          rw [← h.2, ← h.1]
          exact ⟨by omega, this.2, rfl⟩
      · split at h
        · rename_i hlow
          split at h
          · simp only [Word.good.injEq] at h
            have h1 := span_pos (p := alnum) (l := l) (i := i) (by simp [alnum, hlow]) hi
            have h2 := span_le alnum (l.drop i)
            rw [List.length_drop] at h2
            rw [← h.2, ← h.1]
            exact ⟨by omega, by omega, rfl⟩
          · cases h
        · split at h
          · cases h
          · rename_i w hw
            have hs := fixed_stands hb hi h0 hw
            have hl : 1 ≤ w.1.length := by cases hq : w.1 with | nil => exact absurd hq hs.1 | cons _ _ => simp
            simp only [Word.good.injEq] at h
            rw [← h.2, ← h.1]
            exact ⟨by omega, hs.2.1, rfl⟩
end Go.Proofs.Ytiboikbccmfedaa.Kx
