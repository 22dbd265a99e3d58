/- The words of K in plain mathematics, fifth part: blanks behind a text turn nothing. Conditions: the text has words, and is not too long. -/
import Derived.Test.YtkghglncmekdgaaModel4
namespace Go.Proofs.Ytkghglncmekdgaa.Kx

theorem gt_suf (n : Nat) {l : List Int} {i : Nat} (h : i < l.length) : gt (l ++ bl n) i = gt l i := by
  unfold gt
  rw [List.getD_eq_getElem?_getD, List.getElem?_append_left h, ← List.getD_eq_getElem?_getD]
theorem gt_over {l : List Int} {i : Nat} (h : l.length ≤ i) : gt l i = 0 := by
  unfold gt
  rw [List.getD_eq_getElem?_getD, List.getElem?_eq_none h]
  rfl
theorem gt_suf_ge (n : Nat) {l : List Int} {i : Nat} (h : l.length ≤ i) : gt (l ++ bl n) i = 32 ∨ gt (l ++ bl n) i = 0 := by
  rcases Nat.lt_or_ge i (l.length + n) with h1 | h1
  · left
    unfold gt
    rw [List.getD_eq_getElem?_getD, List.getElem?_append_right h]
    simp [bl, show i - l.length < n by omega]
  · exact .inr (gt_over (by rw [List.length_append, bl_length]; exact h1))
theorem drop_suf (n : Nat) {l : List Int} {i : Nat} (h : i ≤ l.length) : (l ++ bl n).drop i = l.drop i ++ bl n := List.drop_append_of_le_length h
theorem span_suf {p : Int → Bool} (h : p 32 = false) (n : Nat) : ∀ x : List Int, span p (x ++ bl n) = span p x
  | [] => by cases n with
    | zero => rfl
    | succ n => show (if p 32 then span p (bl n) + 1 else 0) = 0; rw [h]; rfl
  | c :: t => by
    show (if p c then span p (t ++ bl n) + 1 else 0) = if p c then span p t + 1 else 0
    rw [span_suf h n t]
theorem span_blank_lt (n : Nat) : ∀ x : List Int, span blank x < x.length → span blank (x ++ bl n) = span blank x
  | [], h => by simp at h
  | c :: t, h => by
    show (if blank c then span blank (t ++ bl n) + 1 else 0) = if blank c then span blank t + 1 else 0
    by_cases hc : blank c = true
    · rw [if_pos hc, if_pos hc, span_blank_lt n t]
      have e : span blank (c :: t) = span blank t + 1 := by simp [span, hc]
      rw [e] at h
      simpa using h
    · rw [if_neg hc, if_neg hc]
theorem span_blank_all (n : Nat) : ∀ x : List Int, span blank x = x.length → span blank (x ++ bl n) = x.length + n
  | [], _ => by have := span_bl n []; simpa [span] using this
  | c :: t, h => by
    by_cases hc : blank c = true
    · have e : span blank (c :: t) = span blank t + 1 := by simp [span, hc]
      show (if blank c then span blank (t ++ bl n) + 1 else 0) = _
      rw [e, List.length_cons] at h
      rw [if_pos hc, span_blank_all n t (by omega), List.length_cons]
      omega
    · have e : span blank (c :: t) = 0 := by simp [span, hc]
      rw [e, List.length_cons] at h
      omega
theorem dig_blank {c : Int} (h : c = 32 ∨ c = 0) : dig c = false := by rcases h with rfl | rfl <;> rfl
theorem prev_suf (n : Nat) {l : List Int} {i : Nat} (h : i ≤ l.length) : prev (l ++ bl n) i = prev l i := by
  cases i with
  | zero => rfl
  | succ i => exact gt_suf n (by omega)
theorem begins_suf (n : Nat) {l : List Int} {i : Nat} (h : i ≤ l.length) : begins (l ++ bl n) i = begins l i := by
  unfold begins
  rw [prev_suf n h]
  rcases Nat.lt_or_ge i l.length with h1 | h1
  · rw [gt_suf n h1]
    rcases Nat.lt_or_ge (i + 1) l.length with h2 | h2
    · rw [gt_suf n h2]
    · rw [dig_blank (gt_suf_ge n h2), gt_over h2, show dig 0 = false from rfl]
  · rw [gt_over h1]
    rcases gt_suf_ge n h1 with h2 | h2 <;> rw [h2] <;> rfl
theorem numAt_suf (n : Nat) {l : List Int} {i : Nat} (h : i < l.length) : numAt (l ++ bl n) i = numAt l i := by
  unfold numAt
  rw [gt_suf n h]
  have e : ∀ j, j ≤ l.length → span dig ((l ++ bl n).drop j) = span dig (l.drop j) ∧ ((l ++ bl n).drop j).take (span dig (l.drop j)) = (l.drop j).take (span dig (l.drop j)) := by
    intro j hj
    rw [drop_suf n hj]
    exact ⟨span_suf rfl n _, List.take_append_of_le_length (span_le _ _)⟩
  by_cases hc : gt l i = 45
  · simp only [if_pos hc, (e (i + 1) (by omega)).1, (e (i + 1) (by omega)).2]
  · simp only [if_neg hc, (e i (by omega)).1, (e i (by omega)).2]
theorem nums_suf (n : Nat) : ∀ (f : Nat) (l : List Int) (i : Nat) (acc xs : List Int) (j : Nat), begins l i = true → numsAt f l i acc = .good xs j → numsAt f (l ++ bl n) i acc = .good xs j
  | 0, _, _, _, _, _, _, h => by simp [numsAt] at h
  | f + 1, l, i, acc, xs, j, hb, h => by
    have hs := num_step hb
    have hlt := begins_lt hb
    simp only [numsAt, numAt_suf n hlt] at h ⊢
    rw [drop_suf n hs.2]
    have hsl := span_le blank (l.drop (numAt l i).2.1)
    rw [List.length_drop] at hsl
    split at h
    · rename_i h1
      rw [if_pos h1]
      rcases Nat.lt_or_ge (span blank (l.drop (numAt l i).2.1)) (l.drop (numAt l i).2.1).length with h2 | h2
      · rw [span_blank_lt n _ h2]
        rw [List.length_drop] at h2
        rw [begins_suf n (by omega)]
        split at h
        · rename_i h3
          rw [if_pos h3]
          exact h
        · rename_i h3
          rw [if_neg h3]
          have hb2 : begins l ((numAt l i).2.1 + span blank (l.drop (numAt l i).2.1)) = true := by
            cases hq : begins l ((numAt l i).2.1 + span blank (l.drop (numAt l i).2.1))
            · exact absurd (.inr hq) h3
            · rfl
          exact nums_suf n f _ _ _ _ _ hb2 h
      · have h3 : span blank (l.drop (numAt l i).2.1) = (l.drop (numAt l i).2.1).length := Nat.le_antisymm (span_le _ _) h2
        rw [span_blank_all n _ h3]
        rw [List.length_drop] at h3 ⊢
        have e1 : begins l ((numAt l i).2.1 + span blank (l.drop (numAt l i).2.1)) = false := by
          cases hq : begins l ((numAt l i).2.1 + span blank (l.drop (numAt l i).2.1))
          · rfl
          · have := begins_lt hq; omega
        rw [if_pos (.inr e1)] at h
        rw [if_pos]
        · exact h
        · right
          cases hq : begins (l ++ bl n) ((numAt l i).2.1 + (l.length - (numAt l i).2.1 + n))
          · rfl
          · have := begins_lt hq
            rw [List.length_append, bl_length] at this
            omega
    · cases h
theorem text_suf (n : Nat) : ∀ (f : Nat) (l : List Int) (fr i : Nat) (acc xs : List Int) (j : Nat), Spec.Bytes l → textAt f l fr i acc = .good xs j → textAt f (l ++ bl n) fr i acc = .good xs j
  | 0, _, _, _, _, _, _, _, h => by simp [textAt] at h
  | f + 1, l, fr, i, acc, xs, j, hb, h => by
    simp only [textAt] at h ⊢
    split at h
    · rename_i h1
      rw [if_pos (by rw [List.length_append]; omega), drop_suf n (Nat.le_of_lt h1)]
      split at h
      · cases h
      · rename_i h2
        rw [one_app (fun x hx => hb x (List.mem_of_mem_drop hx)) (bl_bytes n) h2, if_neg h2]
        have hg : (gt (l ++ bl n) (i + 1) = 34 ∨ gt (l ++ bl n) (i + 1) = 92) ↔ (gt l (i + 1) = 34 ∨ gt l (i + 1) = 92) := by
          rcases Nat.lt_or_ge (i + 1) l.length with h3 | h3
          · rw [gt_suf n h3]
          · rw [gt_over h3]
            rcases gt_suf_ge n h3 with h4 | h4 <;> rw [h4] <;> decide
        have hg2 : gt l (i + 1) = 34 ∨ gt l (i + 1) = 92 → gt (l ++ bl n) (i + 1) = gt l (i + 1) := by
          intro h3
          rcases Nat.lt_or_ge (i + 1) l.length with h4 | h4
          · exact gt_suf n h4
          · rw [gt_over h4] at h3; exact absurd h3 (by decide)
        split at h
        · rename_i h3
          rw [if_pos h3]
          exact h
        · rename_i h3
          rw [if_neg h3]
          split at h
          · rename_i h4
            rw [if_pos ⟨h4.1, hg.2 h4.2⟩, hg2 h4.2]
            exact text_suf n f _ _ _ _ _ _ hb h
          · rename_i h4
            rw [if_neg (fun h5 => h4 ⟨h5.1, hg.1 h5.2⟩)]
            split at h
            · cases h
            · rename_i h5
              rw [if_neg h5]
              exact text_suf n f _ _ _ _ _ _ hb h
    · cases h
theorem word_suf (n : Nat) {l : List Int} {i : Nat} {t : Tok} {j : Nat} (hb : Spec.Bytes l) (hi : i < l.length) (h : wordAt l i = .good t j) : wordAt (l ++ bl n) i = .good t j := by
  unfold wordAt at h ⊢
  rw [drop_suf n (Nat.le_of_lt hi), begins_suf n (Nat.le_of_lt hi), gt_suf n hi]
  split at h
  · cases h
  · rename_i h1
    rw [one_app (fun x hx => hb x (List.mem_of_mem_drop hx)) (bl_bytes n) h1, if_neg h1]
    split at h
    · rename_i h2
      rw [if_pos h2]
      split at h
      · cases h
      · rename_i xs k hq
        rw [nums_mono _ ((l ++ bl n).length + 1) _ _ _ _ _ (by rw [List.length_append]; omega) (nums_suf n _ _ _ _ _ _ h2 hq)]
        exact h
    · rename_i h2
      rw [if_neg h2]
      split at h
      · rename_i h3
        rw [if_pos h3]
        split at h
        · cases h
        · rename_i xs k hq
          rw [text_mono _ ((l ++ bl n).length + 1) _ _ _ _ _ _ (by rw [List.length_append]; omega) (text_suf n _ _ _ _ _ _ _ hb hq)]
          exact h
      · rename_i h3
        rw [if_neg h3]
        split at h
        · rename_i h4
          rw [if_pos h4, span_suf (p := alnum) rfl n, List.take_append_of_le_length (span_le _ _)]
          exact h
        · rename_i h4
          rw [if_neg h4]
          exact h
theorem lexAt_suf (n : Nat) : ∀ (f : Nat) (l : List Int) (i : Nat) (acc ts : List Tok), Spec.Bytes l → i ≤ l.length → lexAt f l i acc = .good ts → lexAt f (l ++ bl n) i acc = .good ts
  | 0, _, _, _, _, _, _, h => by simp [lexAt] at h
  | f + 1, l, i, acc, ts, hb, hi, h => by
    have hsl := span_le blank (l.drop i)
    rw [List.length_drop] at hsl
    rw [lexAt] at h ⊢
    rw [drop_suf n hi]
    rcases Nat.lt_or_ge (span blank (l.drop i)) (l.drop i).length with h2 | h2
    · rw [span_blank_lt n _ h2]
      rw [List.length_drop] at h2
      rw [gt_suf n (by omega), prev_suf n (by omega)]
      split at h
      · rename_i h1
        rw [if_pos (h1.imp (fun h => by omega) id)]
        exact h
      · rename_i h1
        rw [if_neg (fun h3 => h1 (h3.imp (fun h => by rw [List.length_append, bl_length] at h; omega) id))]
        split at h
        · cases h
        · rename_i h3
          rw [if_neg h3]
          split at h
          · cases h
          · rename_i t j hw
            rw [word_suf n hb (by omega) hw]
            exact lexAt_suf n f l j _ ts hb (word_step hb (by omega) hw).2.1 h
    · have h3 : span blank (l.drop i) = (l.drop i).length := Nat.le_antisymm (span_le _ _) h2
      rw [span_blank_all n _ h3]
      rw [List.length_drop] at h3 ⊢
      rw [if_pos (.inl (by omega))] at h
      rw [if_pos (.inl (by rw [List.length_append, bl_length]; omega))]
      exact h
theorem lex_after (n : Nat) {l : List Int} {ts : List Tok} (hb : Spec.Bytes l) (hn : (l ++ bl n).length ≤ 8192) (h : lex l = .good ts) : lex (l ++ bl n) = .good ts := by
  unfold lex at h ⊢
  rw [if_neg (by omega)]
  split at h
  · cases h
  · exact lexAt_mono _ _ _ _ _ _ (by rw [List.length_append]; omega) (lexAt_suf n _ _ _ _ _ hb (Nat.zero_le _) h)
end Go.Proofs.Ytkghglncmekdgaa.Kx
