/- The words of K in plain mathematics, fourth part: blanks ahead of a text move its words, blanks behind it turn nothing. Conditions: the text has words, and is not too long. -/
import Derived.Test.YtkghglncmekdgaaModel3
namespace Go.Proofs.Ytkghglncmekdgaa.Kx

theorem one_is {l : List Int} {p : Int × Int} (hb : Spec.Bytes l) (h : Spec.IsOne l p) : Spec.one l = p := by
  obtain ⟨h1, h2, r, h3⟩ := h
  rcases Spec.one_spec l hb with ⟨k1, k2, r', k3⟩ | ⟨_, k⟩
  · obtain ⟨e, _⟩ := Spec.enc_unique k1 h1 (k3.symm.trans h3)
    exact Prod.ext e (by rw [k2, h2, e])
  · exact absurd ⟨r, h3⟩ (k _ h1)
theorem one_app {x y : List Int} (hx : Spec.Bytes x) (hy : Spec.Bytes y) (h : ¬ (Spec.one x).2 = 0) : Spec.one (x ++ y) = Spec.one x := by
  rcases Spec.one_spec x hx with ⟨h1, h2, r, h3⟩ | ⟨h1, _⟩
  · exact one_is (fun z hz => (List.mem_append.1 hz).elim (hx z) (hy z)) ⟨h1, h2, r ++ y, by rw [← List.append_assoc]; exact congrArg (· ++ y) h3⟩
  · rw [h1] at h; exact absurd rfl h

/-! more fuel turns nothing -/
theorem nums_mono : ∀ (f f' : Nat) (l : List Int) (i : Nat) (acc xs : List Int) (j : Nat), f ≤ f' → numsAt f l i acc = .good xs j → numsAt f' l i acc = .good xs j
  | 0, _, _, _, _, _, _, _, h => by simp [numsAt] at h
  | f + 1, 0, _, _, _, _, _, hf, _ => by omega
  | f + 1, f' + 1, l, i, acc, xs, j, hf, h => by
    simp only [numsAt] at h ⊢
    split at h
    · rename_i h1
      rw [if_pos h1]
      split at h
      · rename_i h2
        rw [if_pos h2]
        exact h
      · rename_i h2
        rw [if_neg h2]
        exact nums_mono f f' _ _ _ _ _ (by omega) h
    · cases h
theorem text_mono : ∀ (f f' : Nat) (l : List Int) (fr i : Nat) (acc xs : List Int) (j : Nat), f ≤ f' → textAt f l fr i acc = .good xs j → textAt f' l fr i acc = .good xs j
  | 0, _, _, _, _, _, _, _, _, h => by simp [textAt] at h
  | f + 1, 0, _, _, _, _, _, _, hf, _ => by omega
  | f + 1, f' + 1, l, fr, i, acc, xs, j, hf, h => by
    simp only [textAt] at h ⊢
    split at h
    · rename_i h1
      rw [if_pos h1]
      split at h
      · cases h
      · rename_i h2
        rw [if_neg h2]
        split at h
        · rename_i h3
          rw [if_pos h3]
          exact h
        · rename_i h3
          rw [if_neg h3]
          split at h
          · rename_i h4
            rw [if_pos h4]
            exact text_mono f f' _ _ _ _ _ _ (by omega) h
          · rename_i h4
            rw [if_neg h4]
            split at h
            · cases h
            · rename_i h5
              rw [if_neg h5]
              exact text_mono f f' _ _ _ _ _ _ (by omega) h
    · cases h
theorem lexAt_mono : ∀ (f f' : Nat) (l : List Int) (i : Nat) (acc ts : List Tok), f ≤ f' → lexAt f l i acc = .good ts → lexAt f' l i acc = .good ts
  | 0, _, _, _, _, _, _, h => by simp [lexAt] at h
  | f + 1, 0, _, _, _, _, hf, _ => by omega
  | f + 1, f' + 1, l, i, acc, ts, hf, h => by
    rw [lexAt] at h ⊢
    split at h
    · rename_i h1
      rw [if_pos h1]
      exact h
    · rename_i h1
      rw [if_neg h1]
      split at h
      · cases h
      · rename_i h2
        rw [if_neg h2]
        split at h
        · cases h
        · exact lexAt_mono f f' _ _ _ _ (by omega) h

/-! blanks ahead -/
def bl (n : Nat) : List Int := List.replicate n 32
theorem bl_length (n : Nat) : (bl n).length = n := by simp [bl]
theorem bl_bytes (n : Nat) : Spec.Bytes (bl n) := by
  intro x hx
  have := List.eq_of_mem_replicate hx
  omega
theorem gt_shift (n : Nat) (l : List Int) (i : Nat) : gt (bl n ++ l) (i + n) = gt l i := by
  unfold gt
  rw [List.getD_eq_getElem?_getD, List.getElem?_append_right (by rw [bl_length]; omega), bl_length, Nat.add_sub_cancel, ← List.getD_eq_getElem?_getD]
theorem drop_shift (n : Nat) (l : List Int) (i : Nat) : (bl n ++ l).drop (i + n) = l.drop i := by
  rw [List.drop_append, bl_length, Nat.add_sub_cancel, List.drop_eq_nil_of_le (by rw [bl_length]; omega), List.nil_append]
theorem gt_bl {n k : Nat} (h : k < n) (l : List Int) : gt (bl n ++ l) k = 32 := by
  unfold gt
  rw [List.getD_eq_getElem?_getD, List.getElem?_append_left (by rw [bl_length]; exact h)]
  simp [bl, h]
theorem prev_shift (n : Nat) (l : List Int) (i : Nat) : prev (bl n ++ l) (i + 1 + n) = prev l (i + 1) := by
  rw [show i + 1 + n = (i + n) + 1 by omega]
  exact gt_shift n l i
theorem behind_shift (n : Nat) (l : List Int) (i : Nat) : behind (prev (bl n ++ l) (i + n)) = behind (prev l i) := by
  cases i with
  | succ i => rw [prev_shift]
  | zero =>
    cases n with
    | zero => rfl
    | succ k =>
      rw [show 0 + (k + 1) = k + 1 by omega, show prev (bl (k + 1) ++ l) (k + 1) = gt (bl (k + 1) ++ l) k from rfl, gt_bl (Nat.lt_succ_self k)]
      rfl
theorem begins_shift (n : Nat) (l : List Int) (i : Nat) : begins (bl n ++ l) (i + n) = begins l i := by
  unfold begins
  rw [behind_shift, gt_shift, show i + n + 1 = i + 1 + n by omega, gt_shift]
theorem numAt_shift (n : Nat) (l : List Int) (i : Nat) : numAt (bl n ++ l) (i + n) = ((numAt l i).1, (numAt l i).2.1 + n, (numAt l i).2.2) := by
  unfold numAt
  rw [gt_shift]
  by_cases h : gt l i = 45
  · simp only [if_pos h, show i + n + 1 = i + 1 + n by omega, drop_shift]
    simp only [Prod.mk.injEq, true_and, and_true]
    omega
  · simp only [if_neg h, drop_shift]
    simp only [Prod.mk.injEq, true_and, and_true]
    omega
theorem nums_shift (n : Nat) : ∀ (f : Nat) (l : List Int) (i : Nat) (acc xs : List Int) (j : Nat), numsAt f l i acc = .good xs j → numsAt f (bl n ++ l) (i + n) acc = .good xs (j + n)
  | 0, _, _, _, _, _, h => by simp [numsAt] at h
  | f + 1, l, i, acc, xs, j, h => by
    simp only [numsAt, numAt_shift, drop_shift] at h ⊢
    split at h
    · rename_i h1
      rw [if_pos h1, show (numAt l i).2.1 + n + span blank (List.drop (numAt l i).2.1 l) = (numAt l i).2.1 + span blank (List.drop (numAt l i).2.1 l) + n by omega, begins_shift]
      split at h
      · rename_i h2
        rw [if_pos h2]
        simp only [Nums.good.injEq] at h ⊢
        exact ⟨h.1, by omega⟩
      · rename_i h2
        rw [if_neg h2]
        exact nums_shift n f _ _ _ _ _ h
    · cases h
theorem text_shift (n : Nat) : ∀ (f : Nat) (l : List Int) (fr fr' i : Nat) (acc xs : List Int) (j : Nat), textAt f l fr i acc = .good xs j → textAt f (bl n ++ l) fr' (i + n) acc = .good xs (j + n)
  | 0, _, _, _, _, _, _, _, h => by simp [textAt] at h
  | f + 1, l, fr, fr', i, acc, xs, j, h => by
    simp only [textAt, drop_shift] at h ⊢
    rw [show i + n + 1 = i + 1 + n by omega, gt_shift]
    split at h
    · rename_i h1
      rw [if_pos (by rw [List.length_append, bl_length]; omega)]
      split at h
      · cases h
      · rename_i h2
        rw [if_neg h2]
        split at h
        · rename_i h3
          rw [if_pos h3]
          simp only [Text.good.injEq] at h ⊢
          exact ⟨h.1, by omega⟩
        · rename_i h3
          rw [if_neg h3]
          split at h
          · rename_i h4
            rw [if_pos h4, show i + n + 2 = i + 2 + n by omega]
            exact text_shift n f _ _ _ _ _ _ _ h
          · rename_i h4
            rw [if_neg h4]
            split at h
            · cases h
            · rename_i h5
              rw [if_neg h5, show i + n + (Spec.one (List.drop i l)).2.toNat = i + (Spec.one (List.drop i l)).2.toNat + n by omega]
              exact text_shift n f _ _ _ _ _ _ _ h
    · cases h
/-- a word so far on -/
def Tok.on (n : Nat) (t : Tok) : Tok := ⟨t.kind, t.text, t.lit, t.at_ + n⟩
theorem word_shift (n : Nat) {l : List Int} {i : Nat} {t : Tok} {j : Nat} (h : wordAt l i = .good t j) : wordAt (bl n ++ l) (i + n) = .good (t.on n) (j + n) := by
  unfold wordAt at h ⊢
  rw [drop_shift, begins_shift, gt_shift]
  split at h
  · cases h
  · rename_i h1
    rw [if_neg h1]
    split at h
    · rename_i h2
      rw [if_pos h2]
      split at h
      · cases h
      · rename_i xs k hq
        rw [nums_mono _ ((bl n ++ l).length + 1) _ _ _ _ _ (by rw [List.length_append]; omega) (nums_shift n _ _ _ _ _ _ hq)]
        simp only [Word.good.injEq] at h ⊢
        rw [← h.1, ← h.2]
        exact ⟨rfl, rfl⟩
    · rename_i h2
      rw [if_neg h2]
      split at h
      · rename_i h3
        rw [if_pos h3]
        split at h
        · cases h
        · rename_i xs k hq
          rw [show i + n + 1 = i + 1 + n by omega, text_mono _ ((bl n ++ l).length + 1) _ _ _ _ _ _ (by rw [List.length_append]; omega) (text_shift n _ _ _ (i + n) _ _ _ _ hq)]
          simp only [Word.good.injEq] at h ⊢
          rw [← h.1, ← h.2]
          exact ⟨rfl, rfl⟩
      · rename_i h3
        rw [if_neg h3]
        split at h
        · rename_i h4
          rw [if_pos h4]
          split at h
          · rename_i h5
            rw [if_pos h5]
            simp only [Word.good.injEq] at h ⊢
            rw [← h.1, ← h.2]
            exact ⟨rfl, by omega⟩
          · cases h
        · rename_i h4
          rw [if_neg h4]
          split at h
          · cases h
          · rename_i h5
            rw [if_neg h5]
            simp only [Word.good.injEq] at h ⊢
            rw [← h.1, ← h.2]
            exact ⟨rfl, by omega⟩
theorem rem_shift (n : Nat) (l : List Int) (p : Nat) : ((bl n ++ l).length ≤ p + n ∨ (gt (bl n ++ l) (p + n) = 47 ∧ (p + n = 0 ∨ prev (bl n ++ l) (p + n) = 32))) ↔ (l.length ≤ p ∨ (gt l p = 47 ∧ (p = 0 ∨ prev l p = 32))) := by
  rw [gt_shift, List.length_append, bl_length]
  have e : (p + n = 0 ∨ prev (bl n ++ l) (p + n) = 32) ↔ (p = 0 ∨ prev l p = 32) := by
    cases p with
    | succ p => rw [prev_shift]; exact ⟨fun h => h.elim (fun h => absurd h (by omega)) .inr, fun h => h.elim (fun h => absurd h (by omega)) .inr⟩
    | zero =>
      constructor
      · exact fun _ => .inl rfl
      · intro _
        cases n with
        | zero => exact .inl rfl
        | succ k => exact .inr (by rw [show 0 + (k + 1) = k + 1 by omega]; exact gt_bl (Nat.lt_succ_self k) l)
  rw [e]
  exact ⟨fun h => h.elim (fun h => .inl (by omega)) .inr, fun h => h.elim (fun h => .inl (by omega)) .inr⟩
theorem lexAt_shift (n : Nat) : ∀ (f : Nat) (l : List Int) (i : Nat) (acc ts : List Tok), lexAt f l i acc = .good ts → lexAt f (bl n ++ l) (i + n) (acc.map (Tok.on n)) = .good (ts.map (Tok.on n))
  | 0, _, _, _, _, h => by simp [lexAt] at h
  | f + 1, l, i, acc, ts, h => by
    rw [lexAt] at h ⊢
    rw [drop_shift, show i + n + span blank (List.drop i l) = i + span blank (List.drop i l) + n by omega, List.length_map]
    generalize i + span blank (List.drop i l) = p at *
    split at h
    · rename_i h1
      rw [if_pos ((rem_shift n l p).2 h1)]
      cases h
      rfl
    · rename_i h1
      rw [if_neg (fun h => h1 ((rem_shift n l p).1 h))]
      split at h
      · cases h
      · rename_i h2
        rw [if_neg h2]
        split at h
        · cases h
        · rename_i t j hw
          rw [word_shift n hw]
          have := lexAt_shift n f l j (acc ++ [t]) ts h
          rw [List.map_append] at this
          exact this
theorem span_bl (n : Nat) (l : List Int) : span blank (bl n ++ l) = n + span blank l := by
  induction n with
  | zero => simp [bl]
  | succ n ih =>
    have e : bl (n + 1) ++ l = 32 :: (bl n ++ l) := rfl
    rw [e]
    simp only [span, blank, beq_self_eq_true, if_true]
    rw [ih]
    omega
theorem lex_ahead (n : Nat) {l : List Int} {ts : List Tok} (hn : (bl n ++ l).length ≤ 8192) (h : lex l = .good ts) : lex (bl n ++ l) = .good (ts.map (Tok.on n)) := by
  unfold lex at h ⊢
  rw [if_neg (by omega)]
  split at h
  · cases h
  · have h1 := lexAt_shift n _ _ _ _ _ h
    have h2 := lexAt_mono _ ((bl n ++ l).length + 1) _ _ _ _ (by rw [List.length_append]; omega) h1
    rw [← h2]
    simp only [List.map_nil]
    rw [lexAt, lexAt]
    have e : 0 + span blank (List.drop 0 (bl n ++ l)) = 0 + n + span blank (List.drop (0 + n) (bl n ++ l)) := by
      rw [drop_shift, List.drop_zero, List.drop_zero, span_bl]
      omega
    rw [e]
end Go.Proofs.Ytkghglncmekdgaa.Kx
