/- The words of APL in plain mathematics, third part: where words stand, and that a word that is always the same stands there as it is. Conditions: none beyond each theorem's own. -/
import Derived.Test.YtiboikbccmfedaaModel2
namespace Go.Proofs.Ytiboikbccmfedaa.Kx

/-- a word's text stands at its place -/
def Stands (l : List Int) (t : Tok) : Prop := t.at_ < l.length ∧ t.at_ + t.text.length ≤ l.length ∧ (l.drop t.at_).take t.text.length = t.text
theorem word_stands {l : List Int} {i : Nat} {t : Tok} {j : Nat} (hb : Spec.Bytes l) (hi : i < l.length) (h : wordAt l i = .good t j) : Stands l t ∧ t.at_ = i := by
  refine (fun (hs : t.at_ = i ∧ t.at_ + t.text.length ≤ l.length ∧ (l.drop t.at_).take t.text.length = t.text) => ⟨⟨by omega, hs.2⟩, hs.1⟩) ?_
  unfold wordAt at h
  split at h
  · cases h
  · rename_i h0
    split at h
    · split at h
      · cases h
      · simp only [Word.good.injEq] at h
        rw [← h.1]
        exact ⟨rfl, by simpa using Nat.le_of_lt hi, by simp⟩
    · split at h
      · split at h
        · cases h
        · simp only [Word.good.injEq] at h
          rw [← h.1]
          exact ⟨rfl, by simpa using Nat.le_of_lt hi, by simp⟩
      · split at h
        · split at h
          · simp only [Word.good.injEq] at h
            have h2 := span_le alnum (l.drop i)
            rw [List.length_drop] at h2
            rw [← h.1]
            refine ⟨rfl, ?_, ?_⟩
            · show i + ((l.drop i).take (span alnum (l.drop i))).length ≤ l.length
              rw [List.length_take, List.length_drop]; omega
            · show (l.drop i).take ((l.drop i).take (span alnum (l.drop i))).length = _
              rw [List.length_take, List.length_drop]
              congr 1
              omega
          · cases h
        · split at h
          · cases h
          · rename_i w hw
            have hs := fixed_stands hb hi h0 hw
            simp only [Word.good.injEq] at h
            rw [← h.1]
            exact ⟨rfl, hs.2⟩

/-- words one behind the other, from a place on -/
def Order (l : List Int) : Nat → List Tok → Prop
  | _, [] => True
  | i, t :: ts => i ≤ t.at_ ∧ Stands l t ∧ Order l (t.at_ + 1) ts
theorem Order.snoc {l : List Int} {t : Tok} {i j : Nat} (hs : Stands l t) : ∀ {ts : List Tok}, Order l i ts → (∀ u ∈ ts, u.at_ + 1 ≤ j) → i ≤ j → j ≤ t.at_ → Order l i (ts ++ [t])
  | [], _, _, h1, h2 => ⟨by omega, hs, trivial⟩
  | u :: ts, ho, hu, _, h2 => ⟨ho.1, ho.2.1, Order.snoc hs ho.2.2 (fun v hv => hu v (List.mem_cons_of_mem _ hv)) (hu u List.mem_cons_self) h2⟩
theorem lexAt_order {l : List Int} (hb : Spec.Bytes l) : ∀ (f i : Nat) (acc ts : List Tok), Order l 0 acc → (∀ u ∈ acc, u.at_ + 1 ≤ i) → lexAt f l i acc = .good ts → Order l 0 ts
  | 0, _, _, _, _, _, h => by cases h
  | f + 1, i, acc, ts, ho, hu, h => by
    rw [lexAt] at h
    split at h
    · cases h; exact ho
    · rename_i hn
      split at h
      · exact lexAt_order hb f (i + 1) acc ts ho (fun u hm => by have := hu u hm; omega) h
      · split at h
        · cases h; exact ho
        · split at h
          · cases h
          · split at h
            · cases h
            · rename_i t j hw
              have hlt : i < l.length := by omega
              have h1 := word_step hb hlt hw
              have h2 := word_stands hb hlt hw
              refine lexAt_order hb f j (acc ++ [t]) ts (ho.snoc (j := i) h2.1 hu (Nat.zero_le _) (by omega)) (fun u hm => ?_) h
              rcases List.mem_append.1 hm with h3 | h3
              · have := hu u h3; omega
              · obtain rfl : u = t := by simpa using h3
                omega
theorem lex_order {l : List Int} (hb : Spec.Bytes l) {ts : List Tok} (h : lex l = .good ts) : Order l 0 ts := by
  unfold lex at h
  split at h
  · cases h
  · exact lexAt_order hb _ _ [] _ True.intro (fun u hu => by cases hu) h
theorem Order.at {l : List Int} : ∀ {ts : List Tok} {i : Nat} (k : Nat) {t : Tok}, Order l i ts → ts[k]? = some t → Stands l t ∧ (∀ u, ts[k + 1]? = some u → t.at_ + 1 ≤ u.at_)
  | [], _, k, t, _, h => by simp at h
  | u :: ts, i, 0, t, ho, h => by
    simp at h
    subst h
    refine ⟨ho.2.1, fun v hv => ?_⟩
    cases ts with
    | nil => simp at hv
    | cons x xs =>
      simp at hv
      subst hv
      exact ho.2.2.1
  | u :: ts, i, k + 1, t, ho, h => by
    have := Order.at k ho.2.2 (by simpa using h)
    exact ⟨this.1, fun v hv => this.2 v (by simpa using hv)⟩
/-- where there is no word, the place lies in the text -/
theorem text_bad_le : ∀ (f : Nat) (l : List Int) (fr i : Nat) (acc : List Int) (e : Int) (j : Nat), fr ≤ l.length → textAt f l fr i acc = .bad e j → j ≤ l.length
  | 0, l, fr, i, acc, e, j, hf, h => by simp only [textAt, Text.bad.injEq] at h; omega
  | f + 1, l, fr, i, acc, e, j, hf, h => by
    simp only [textAt] at h
    split at h
    · split at h
      · simp only [Text.bad.injEq] at h; omega
      · split at h
        · cases h
        · split at h
          · exact text_bad_le f _ _ _ _ _ _ hf h
          · split at h
            · simp only [Text.bad.injEq] at h; omega
            · exact text_bad_le f _ _ _ _ _ _ hf h
    · simp only [Text.bad.injEq] at h; omega
theorem nums_bad_le : ∀ (f : Nat) (l : List Int) (i : Nat) (acc : List Int) (j : Nat), begins l i = true → numsAt f l i acc = .bad j → j ≤ l.length
  | 0, l, i, acc, j, hb, h => by simp only [numsAt, Nums.bad.injEq] at h; have := begins_lt hb; omega
  | f + 1, l, i, acc, j, hb, h => by
    simp only [numsAt] at h
    split at h
    · split at h
      · cases h
      · rename_i hn
        have hb2 : begins l ((numAt l i).2.1 + span blank (l.drop (numAt l i).2.1)) = true := by
          cases hq : begins l ((numAt l i).2.1 + span blank (l.drop (numAt l i).2.1))
          · exact absurd (.inr hq) hn
          · rfl
        exact nums_bad_le f _ _ _ _ hb2 h
    · simp only [Nums.bad.injEq] at h; have := begins_lt hb; omega
theorem word_bad_le {l : List Int} {i : Nat} {e : Int} {j : Nat} (hi : i < l.length) (h : wordAt l i = .bad e j) : j ≤ l.length := by
  unfold wordAt at h
  split at h
  · simp only [Word.bad.injEq] at h; omega
  · split at h
    · rename_i hbg
      split at h
      · rename_i j' hq
        simp only [Word.bad.injEq] at h
        have := nums_bad_le _ _ _ _ _ hbg hq
        omega
      · cases h
    · split at h
      · split at h
        · rename_i e' j' hq
          simp only [Word.bad.injEq] at h
          have := text_bad_le _ _ _ _ _ _ _ (by omega) hq
          omega
        · cases h
      · split at h
        · split at h
          · cases h
          · simp only [Word.bad.injEq] at h; omega
        · split at h
          · simp only [Word.bad.injEq] at h; omega
          · cases h
theorem lexAt_bad {l : List Int} (hb : Spec.Bytes l) : ∀ (f i : Nat) (acc : List Tok) (e : Int) (j : Nat), i ≤ l.length → l.length < i + f → lexAt f l i acc = .bad e j → j ≤ l.length ∧ e ≠ 0
  | 0, i, _, _, _, hi, hf, h => by omega
  | f + 1, i, acc, e, j, hi, hf, h => by
    rw [lexAt] at h
    split at h
    · cases h
    · rename_i hn
      have hlt : i < l.length := by omega
      split at h
      · exact lexAt_bad hb f (i + 1) _ e j (by omega) (by omega) h
      · split at h
        · cases h
        · split at h
          · simp only [Res.bad.injEq] at h; exact ⟨by omega, by omega⟩
          · split at h
            · rename_i e' j' hw
              simp only [Res.bad.injEq] at h
              have := word_bad_le hlt hw
              have h2 := word_err hw
              exact ⟨by omega, by omega⟩
            · rename_i t j' hw
              have h1 := word_step hb hlt hw
              exact lexAt_bad hb f j' _ e j h1.2.1 (by omega) h
theorem lex_bad_le {l : List Int} (hb : Spec.Bytes l) {e : Int} {j : Nat} (h : lex l = .bad e j) : j ≤ l.length ∧ e ≠ 0 := by
  unfold lex at h
  split at h
  · simp only [Res.bad.injEq] at h; exact ⟨by omega, by omega⟩
  · exact lexAt_bad hb _ _ _ _ _ (Nat.zero_le _) (by omega) h
end Go.Proofs.Ytiboikbccmfedaa.Kx
