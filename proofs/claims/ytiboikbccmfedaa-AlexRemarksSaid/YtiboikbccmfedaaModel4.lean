/- The words of APL in plain mathematics, fourth part: what stands behind the sign of a remark turns nothing. Conditions: the text has words, and is not too long. -/
import Derived.Test.YtiboikbccmfedaaModel3
namespace Go.Proofs.Ytiboikbccmfedaa.Kx

theorem one_is {l : List Int} {p : Int × Int} (hb : Spec.Bytes l) (h : Spec.IsOne l p) : Spec.one l = p := by
  obtain ⟨h1, h2, r, h3⟩ := h
  rcases Spec.one_spec l hb with ⟨k1, k2, r', k3⟩ | ⟨_, k⟩
  · obtain ⟨e, _⟩ := Spec.enc_unique k1 h1 (k3.symm.trans h3)
    exact Prod.ext e (by rw [k2, h2, e])
  · exact absurd ⟨r, h3⟩ (k _ h1)
theorem one_app {x y : List Int} (hx : Spec.Bytes x) (hy : Spec.Bytes y) (h : ¬ (Spec.one x).2 = 0) : Spec.one (x ++ y) = Spec.one x := by
  rcases Spec.one_spec x hx with ⟨h1, h2, r, h3⟩ | ⟨h1, _⟩
  · exact one_is (fun z hz => (List.mem_append.1 hz).elim (hx z) (hy z)) ⟨h1, h2, r ++ y, by rw [← List.append_assoc]; exact congrArg (· ++ y) h3⟩
  · rw [h1] at h; exact absurd rfl h

/-! more fuel turns nothing -/
theorem nums_mono : ∀ (f f' : Nat) (l : List Int) (i : Nat) (acc xs : List Int) (j : Nat), f ≤ f' → numsAt f l i acc = .good xs j → numsAt f' l i acc = .good xs j
  | 0, _, _, _, _, _, _, _, h => by simp [numsAt] at h
  | f + 1, 0, _, _, _, _, _, hf, _ => by omega
  | f + 1, f' + 1, l, i, acc, xs, j, hf, h => by
    simp only [numsAt] at h ⊢
    split at h
    · rename_i h1
      rw [if_pos h1]
      split at h
      · rename_i h2
        rw [if_pos h2]
        exact h
      · rename_i h2
        rw [if_neg h2]
        exact nums_mono f f' _ _ _ _ _ (by omega) h
    · cases h
theorem text_mono : ∀ (f f' : Nat) (l : List Int) (fr i : Nat) (acc xs : List Int) (j : Nat), f ≤ f' → textAt f l fr i acc = .good xs j → textAt f' l fr i acc = .good xs j
  | 0, _, _, _, _, _, _, _, _, h => by simp [textAt] at h
  | f + 1, 0, _, _, _, _, _, _, hf, _ => by omega
  | f + 1, f' + 1, l, fr, i, acc, xs, j, hf, h => by
    simp only [textAt] at h ⊢
    split at h
    · rename_i h1
      rw [if_pos h1]
      split at h
      · cases h
      · rename_i h2
        rw [if_neg h2]
        split at h
        · rename_i h3
          rw [if_pos h3]
          exact h
        · rename_i h3
          rw [if_neg h3]
          split at h
          · rename_i h4
            rw [if_pos h4]
            exact text_mono f f' _ _ _ _ _ _ (by omega) h
          · rename_i h4
            rw [if_neg h4]
            split at h
            · cases h
            · rename_i h5
              rw [if_neg h5]
              exact text_mono f f' _ _ _ _ _ _ (by omega) h
    · cases h
theorem lexAt_mono : ∀ (f f' : Nat) (l : List Int) (i : Nat) (acc ts : List Tok), f ≤ f' → lexAt f l i acc = .good ts → lexAt f' l i acc = .good ts
  | 0, _, _, _, _, _, _, h => by simp [lexAt] at h
  | f + 1, 0, _, _, _, _, hf, _ => by omega
  | f + 1, f' + 1, l, i, acc, ts, hf, h => by
    rw [lexAt] at h ⊢
    split at h
    · rename_i h1
      rw [if_pos h1]
      exact h
    · rename_i h1
      rw [if_neg h1]
      split at h
      · rename_i h2
        rw [if_pos h2]
        exact lexAt_mono f f' _ _ _ _ (by omega) h
      · rename_i h2
        rw [if_neg h2]
        split at h
        · rename_i h3
          rw [if_pos h3]
          exact h
        · rename_i h3
          rw [if_neg h3]
          split at h
          · cases h
          · rename_i h4
            rw [if_neg h4]
            split at h
            · cases h
            · exact lexAt_mono f f' _ _ _ _ (by omega) h

/-! the sign of a remark, and what is behind it -/
def rem (b : List Int) : List Int := 226 :: 141 :: 157 :: b
theorem rem_bytes {b : List Int} (hb : Spec.Bytes b) : Spec.Bytes (rem b) := by
  intro x hx
  simp only [rem, List.mem_cons] at hx
  rcases hx with rfl | rfl | rfl | hx
  · omega
  · omega
  · omega
  · exact hb x hx
theorem gt_suf (b : List Int) {l : List Int} {i : Nat} (h : i < l.length) : gt (l ++ rem b) i = gt l i := by
  unfold gt
  rw [List.getD_eq_getElem?_getD, List.getElem?_append_left h, ← List.getD_eq_getElem?_getD]
theorem gt_end (b : List Int) (l : List Int) : gt (l ++ rem b) l.length = 226 := by
  unfold gt
  rw [List.getD_eq_getElem?_getD, List.getElem?_append_right (Nat.le_refl _), Nat.sub_self]
  rfl
theorem gt_over {l : List Int} {i : Nat} (h : l.length ≤ i) : gt l i = 0 := by
  unfold gt
  rw [List.getD_eq_getElem?_getD, List.getElem?_eq_none h]
  rfl
theorem drop_suf (b : List Int) {l : List Int} {i : Nat} (h : i ≤ l.length) : (l ++ rem b).drop i = l.drop i ++ rem b := List.drop_append_of_le_length h
theorem span_suf {p : Int → Bool} (h : p 226 = false) (b : List Int) : ∀ x : List Int, span p (x ++ rem b) = span p x
  | [] => by show (if p 226 then span p (141 :: 157 :: b) + 1 else 0) = 0; rw [h]; rfl
  | c :: t => by
    show (if p c then span p (t ++ rem b) + 1 else 0) = if p c then span p t + 1 else 0
    rw [span_suf h b t]
/-- a list without the sign's first byte stands before it or not at all -/
theorem head_suf (b : List Int) : ∀ (w x : List Int), (226 : Int) ∉ w → w.isPrefixOf (x ++ rem b) = w.isPrefixOf x
  | [], _, _ => by simp
  | c :: w, [], h => by
    show (c == 226 && w.isPrefixOf (141 :: 157 :: b)) = false
    rw [beq_eq_false_iff_ne.2 (fun e => h (by rw [e]; exact List.mem_cons_self)), Bool.false_and]
  | c :: w, d :: x, h => by
    show (c == d && w.isPrefixOf (x ++ rem b)) = (c == d && w.isPrefixOf x)
    rw [head_suf b w x (fun hm => h (List.mem_cons_of_mem _ hm))]
theorem pre_bar (b : List Int) {l : List Int} {i : Nat} (h : i ≤ l.length) : pre bar (l ++ rem b) i = pre bar l i := by
  unfold pre
  rw [drop_suf b h, head_suf b _ _ (by decide)]
theorem pre_suf (b : List Int) {l : List Int} {i : Nat} (c : Int) (w : List Int) (hw : (226 : Int) ∉ w) (h : i < l.length) : pre (c :: w) (l ++ rem b) i = pre (c :: w) l i := by
  unfold pre
  rw [drop_suf b (Nat.le_of_lt h), List.drop_eq_getElem_cons h]
  show (c == _ && w.isPrefixOf (l.drop (i + 1) ++ rem b)) = (c == _ && w.isPrefixOf (l.drop (i + 1)))
  rw [head_suf b w _ hw]
theorem start_suf (b : List Int) {l : List Int} {i : Nat} (h : i ≤ l.length) : start (l ++ rem b) i = start l i := by
  unfold start
  rw [pre_bar b h]
theorem start_fits {l : List Int} {i : Nat} (h : i ≤ l.length) : start l i ≤ l.length := by
  unfold start
  split
  · rename_i hp
    rcases pre_le hp with h1 | h1
    · exact h1
    · cases h1
  · exact h
theorem begins_suf (b : List Int) {l : List Int} {i : Nat} (h : i ≤ l.length) : begins (l ++ rem b) i = begins l i := by
  unfold begins
  rw [start_suf b h]
  rcases Nat.lt_or_ge (start l i) l.length with h1 | h1
  · rw [gt_suf b h1]
  · have h2 := start_fits h
    obtain h3 : start l i = l.length := by omega
    rw [h3, gt_end, gt_over (Nat.le_refl _)]
    rfl
theorem numAt_suf (b : List Int) {l : List Int} {i : Nat} (h : i ≤ l.length) : numAt (l ++ rem b) i = numAt l i := by
  have h2 := start_fits h
  unfold numAt
  dsimp only
  rw [start_suf b h, pre_bar b h, drop_suf b h2, span_suf (p := dig) rfl b, List.take_append_of_le_length (span_le _ _)]
theorem nums_suf (b : List Int) : ∀ (f : Nat) (l : List Int) (i : Nat) (acc : List Int), begins l i = true → numsAt f (l ++ rem b) i acc = numsAt f l i acc
  | 0, _, _, _, _ => rfl
  | f + 1, l, i, acc, hb => by
    have hs := num_step hb
    have hlt := begins_lt hb
    have hsl := span_le blank (l.drop (numAt l i).2.1)
    rw [List.length_drop] at hsl
    simp only [numsAt, numAt_suf b (Nat.le_of_lt hlt)]
    rw [drop_suf b hs.2, span_suf (p := blank) rfl b, begins_suf b (by omega)]
    split
    · split
      · rfl
      · rename_i h3
        have hb2 : begins l ((numAt l i).2.1 + span blank (l.drop (numAt l i).2.1)) = true := by
          cases hq : begins l ((numAt l i).2.1 + span blank (l.drop (numAt l i).2.1))
          · exact absurd (.inr hq) h3
          · rfl
        exact nums_suf b f _ _ _ hb2
    · rfl
theorem text_suf {b : List Int} (hbb : Spec.Bytes b) : ∀ (f : Nat) (l : List Int) (fr i : Nat) (acc xs : List Int) (j : Nat), Spec.Bytes l → textAt f l fr i acc = .good xs j → textAt f (l ++ rem b) fr i acc = .good xs j
  | 0, _, _, _, _, _, _, _, h => by simp [textAt] at h
  | f + 1, l, fr, i, acc, xs, j, hb, h => by
    simp only [textAt] at h ⊢
    split at h
    · rename_i h1
      rw [if_pos (by rw [List.length_append]; omega), drop_suf b (Nat.le_of_lt h1)]
      have hg : gt (l ++ rem b) (i + 1) = 39 ↔ gt l (i + 1) = 39 := by
        rcases Nat.lt_or_ge (i + 1) l.length with h3 | h3
        · rw [gt_suf b h3]
        · obtain h4 : i + 1 = l.length := by omega
          rw [h4, gt_end, gt_over (Nat.le_refl _)]
          decide
      split at h
      · cases h
      · rename_i h2
        rw [one_app (fun x hx => hb x (List.mem_of_mem_drop hx)) (rem_bytes hbb) h2, if_neg h2]
        split at h
        · rename_i h3
          rw [if_pos ⟨h3.1, fun h4 => h3.2 (hg.1 h4)⟩]
          exact h
        · rename_i h3
          rw [if_neg (fun h4 => h3 ⟨h4.1, fun h5 => h4.2 (hg.2 h5)⟩)]
          split at h
          · rename_i h4
            rw [if_pos h4]
            exact text_suf hbb f _ _ _ _ _ _ hb h
          · rename_i h4
            rw [if_neg h4]
            split at h
            · cases h
            · rename_i h5
              rw [if_neg h5]
              exact text_suf hbb f _ _ _ _ _ _ hb h
    · cases h
theorem fixed_suf {b : List Int} (hbb : Spec.Bytes b) {l : List Int} {i : Nat} (hb : Spec.Bytes l) (hi : i < l.length) (h0 : ¬ (Spec.one (l.drop i)).2 = 0) : fixedAt (l ++ rem b) i = fixedAt l i := by
  have h1 := one_le hi hb h0
  unfold fixedAt fixedWords
  simp only [List.find?_cons, List.find?_nil]
  rw [pre_suf b _ _ (by decide) hi, pre_suf b _ _ (by decide) hi, pre_suf b _ _ (by decide) hi, pre_suf b _ _ (by decide) hi, pre_suf b _ _ (by decide) hi, drop_suf b (Nat.le_of_lt hi), one_app (fun x hx => hb x (List.mem_of_mem_drop hx)) (rem_bytes hbb) h0, List.take_append_of_le_length (by rw [List.length_drop]; omega)]
theorem word_suf {b : List Int} (hbb : Spec.Bytes b) {l : List Int} {i : Nat} {t : Tok} {j : Nat} (hb : Spec.Bytes l) (hi : i < l.length) (h : wordAt l i = .good t j) : wordAt (l ++ rem b) i = .good t j := by
  unfold wordAt at h ⊢
  rw [begins_suf b (Nat.le_of_lt hi), gt_suf b hi, drop_suf b (Nat.le_of_lt hi)]
  split at h
  · cases h
  · rename_i h1
    rw [one_app (fun x hx => hb x (List.mem_of_mem_drop hx)) (rem_bytes hbb) h1, if_neg h1]
    split at h
    · rename_i h2
      rw [if_pos h2]
      split at h
      · cases h
      · rename_i xs k hq
        rw [nums_mono _ ((l ++ rem b).length + 1) _ _ _ _ _ (by rw [List.length_append]; omega) ((nums_suf b _ _ _ _ h2).trans hq)]
        exact h
    · rename_i h2
      rw [if_neg h2]
      split at h
      · rename_i h3
        rw [if_pos h3]
        split at h
        · cases h
        · rename_i xs k hq
          rw [text_mono _ ((l ++ rem b).length + 1) _ _ _ _ _ _ (by rw [List.length_append]; omega) (text_suf hbb _ _ _ _ _ _ _ hb hq)]
          exact h
      · rename_i h3
        rw [if_neg h3]
        split at h
        · rename_i h4
          rw [if_pos h4, span_suf (p := alnum) rfl b, List.take_append_of_le_length (span_le _ _)]
          exact h
        · rename_i h4
          rw [if_neg h4, fixed_suf hbb hb hi h1]
          exact h
theorem lexAt_suf {b : List Int} (hbb : Spec.Bytes b) : ∀ (f : Nat) (l : List Int) (i : Nat) (acc ts : List Tok), Spec.Bytes l → i ≤ l.length → lexAt f l i acc = .good ts → lexAt f (l ++ rem b) i acc = .good ts
  | 0, _, _, _, _, _, _, h => by simp [lexAt] at h
  | f + 1, l, i, acc, ts, hb, hi, h => by
    rw [lexAt] at h ⊢
    split at h
    · rename_i h1
      obtain rfl : i = l.length := by omega
      rw [if_neg (by rw [List.length_append]; simp [rem]), gt_end, if_neg (by decide), if_pos]
      · exact h
      · unfold pre
        rw [drop_suf b (Nat.le_refl _), List.drop_length, List.nil_append]
        rfl
    · rename_i h1
      have hlt : i < l.length := by omega
      rw [if_neg (by rw [List.length_append]; omega), gt_suf b hlt, show pre remark (l ++ rem b) i = pre remark l i from pre_suf b _ _ (by decide) hlt]
      split at h
      · rename_i h2
        rw [if_pos h2]
        exact lexAt_suf hbb f l _ _ _ hb (by omega) h
      · rename_i h2
        rw [if_neg h2]
        split at h
        · rename_i h3
          rw [if_pos h3]
          exact h
        · rename_i h3
          rw [if_neg h3]
          split at h
          · cases h
          · rename_i h4
            rw [if_neg h4]
            split at h
            · cases h
            · rename_i t j hw
              rw [word_suf hbb hb hlt hw]
              exact lexAt_suf hbb f l j _ ts hb (word_step hb hlt hw).2.1 h
theorem lex_remark {b : List Int} (hbb : Spec.Bytes b) {l : List Int} {ts : List Tok} (hb : Spec.Bytes l) (hn : (l ++ rem b).length ≤ 8192) (h : lex l = .good ts) : lex (l ++ rem b) = .good ts := by
  unfold lex at h ⊢
  rw [if_neg (by omega)]
  split at h
  · cases h
  · exact lexAt_mono _ _ _ _ _ _ (by rw [List.length_append]; omega) (lexAt_suf hbb _ _ _ _ _ hb (Nat.zero_le _) h)
end Go.Proofs.Ytiboikbccmfedaa.Kx
