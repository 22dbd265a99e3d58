/- The words of APL in plain mathematics, fifth part: any signs between the signs of a text are read as a text of just these. Conditions: the signs are good and may stand in a text; the text is not too long. -/
import Derived.Test.YtiboikbccmfedaaModel4
namespace Go.Proofs.Ytiboikbccmfedaa.Kx

/-- signs that may stand in a text -/
def Fine (x : Int) : Prop := Spec.good x = true ∧ 32 ≤ x ∧ x ≠ 127
/-- a sign within a text: the one that ends it twice -/
def esc1 (x : Int) : List Int := if x = 39 then 39 :: Spec.enc x else Spec.enc x
def esc (l : List Int) : List Int := l.flatMap esc1
theorem esc_cons (x : Int) (l : List Int) : esc (x :: l) = esc1 x ++ esc l := rfl
theorem esc_snoc (l : List Int) (x : Int) : esc (l ++ [x]) = esc l ++ esc1 x := by simp [esc]
theorem enc_low {x : Int} (h : x < 128) : Spec.enc x = [x] := by unfold Spec.enc; rw [if_pos h]
theorem enc_bytes {v : Int} (h : Spec.good v = true) : Spec.Bytes (Spec.enc v) := by
  rcases Spec.enc_cases h (l := Spec.enc v ++ []) rfl with ⟨_, _, _, ke⟩ | ⟨c, d, _, _, _, _, hm, _, _, _, ke⟩ | ⟨c, d, f, _, _, _, _, _, _, hm, _, _, _, ke⟩ | ⟨c, d, f, g, _, _, _, _, _, _, _, _, hm, _, _, ke⟩ <;> rw [ke] <;> intro x hx <;> simp at hx <;> omega
theorem bytes_append {a b : List Int} (ha : Spec.Bytes a) (hb : Spec.Bytes b) : Spec.Bytes (a ++ b) := fun x hx => (List.mem_append.1 hx).elim (ha x) (hb x)
theorem bytes_one {c : Int} (h : 0 ≤ c ∧ c ≤ 255) : Spec.Bytes [c] := fun x hx => by rw [List.mem_singleton] at hx; subst hx; exact h
theorem esc1_bytes {x : Int} (h : Fine x) : Spec.Bytes (esc1 x) := by
  unfold esc1
  split
  · exact bytes_append (bytes_one (by omega)) (enc_bytes h.1)
  · exact enc_bytes h.1
theorem esc_bytes : ∀ {l : List Int}, (∀ x ∈ l, Fine x) → Spec.Bytes (esc l)
  | [], _ => fun x hx => by cases hx
  | x :: l, h => by
    rw [esc_cons]
    exact bytes_append (esc1_bytes (h x List.mem_cons_self)) (esc_bytes fun y hy => h y (List.mem_cons_of_mem _ hy))
theorem one_enc {x : Int} (h : Spec.good x = true) {r : List Int} (hr : Spec.Bytes r) : Spec.one (Spec.enc x ++ r) = (x, ((Spec.enc x).length : Int)) :=
  one_is (bytes_append (enc_bytes h) hr) ⟨h, rfl, r, rfl⟩
theorem one_low {c : Int} (h : 0 ≤ c ∧ c < 128) {r : List Int} (hr : Spec.Bytes r) : Spec.one (c :: r) = (c, 1) := by
  have := one_enc (x := c) (by rw [Spec.good_iff]; omega) hr
  rw [enc_low h.2] at this
  exact this
theorem len_pos (x : Int) : 1 ≤ (Spec.enc x).length := by unfold Spec.enc; split <;> (try split) <;> (try split) <;> simp
theorem drop_more {m a b : List Int} {i k : Nat} (h : m.drop i = a ++ b) (hk : k = a.length) : m.drop (i + k) = b := by
  rw [← List.drop_drop, h, hk, List.drop_left]
theorem lt_of_drop {m a : List Int} {i : Nat} {c : Int} (h : m.drop i = c :: a) : i < m.length := by
  rcases Nat.lt_or_ge i m.length with h1 | h1
  · exact h1
  · rw [List.drop_eq_nil_of_le h1] at h; cases h
theorem text_esc (m : List Int) (fr : Nat) : ∀ (l : List Int) (f i : Nat) (acc : List Int), (∀ x ∈ l, Fine x) → m.drop i = esc l ++ [39] → l.length < f → textAt f m fr i acc = .good (acc ++ l) m.length
  | [], 0, _, _, _, _, hf => by simp at hf
  | [], f + 1, i, acc, _, hd, _ => by
    have hd' : m.drop i = 39 :: [] := hd
    have h1 := lt_of_drop hd'
    have h2 := congrArg List.length hd'
    rw [List.length_drop, List.length_cons, List.length_nil] at h2
    have ho := one_low (c := 39) (by omega) (r := []) (fun x hx => by cases hx)
    have hg : gt m (i + 1) = 0 := gt_over (by omega)
    simp only [textAt, if_pos h1, hd', ho, List.append_nil, hg]
    rw [if_neg (by omega), if_pos ⟨trivial, by omega⟩]
    rw [show i + 1 = m.length by omega]
  | x :: l, 0, _, _, _, _, hf => by simp at hf
  | x :: l, f + 1, i, acc, hx, hd, hf => by
    have hfx := hx x List.mem_cons_self
    have hrest : Spec.Bytes (esc l ++ [39]) := bytes_append (esc_bytes fun y hy => hx y (List.mem_cons_of_mem _ hy)) (bytes_one (by omega))
    have ih : ∀ (i : Nat), m.drop i = esc l ++ [39] → textAt f m fr i (acc ++ [x]) = .good (acc ++ x :: l) m.length := by
      intro i hi
      have := text_esc m fr l f i (acc ++ [x]) (fun y hy => hx y (List.mem_cons_of_mem _ hy)) hi (by simpa using hf)
      rw [this, List.append_assoc]
      rfl
    rw [esc_cons, List.append_assoc] at hd
    by_cases he : x = 39
    · subst he
      have e1 : esc1 39 = [39, 39] := by unfold esc1; rw [if_pos rfl, enc_low (by omega)]
      rw [e1] at hd
      have hd' : m.drop i = 39 :: 39 :: (esc l ++ [39]) := hd
      have h1 := lt_of_drop hd'
      have ho := one_low (c := 39) (by omega) (r := 39 :: (esc l ++ [39])) (bytes_append (bytes_one (by omega)) hrest)
      have hg : gt m (i + 1) = 39 := by rw [gt_drop, hd']; rfl
      simp only [textAt, if_pos h1, hd', ho, hg]
      rw [if_neg (by omega), if_neg (fun h => h.2 rfl), if_pos trivial]
      exact ih (i + 2) (drop_more hd rfl)
    · have e1 : esc1 x = Spec.enc x := by unfold esc1; rw [if_neg he]
      rw [e1] at hd
      have ho := one_enc hfx.1 hrest
      have h1 : i < m.length := by
        have h2 := congrArg List.length hd
        rw [List.length_drop, List.length_append] at h2
        have := len_pos x
        omega
      have hlp := len_pos x
      obtain ⟨_, hx32, hx127⟩ := hfx
      simp only [textAt, if_pos h1, hd, ho]
      rw [if_neg (by omega), if_neg (fun h => he h.1), if_neg he, if_neg (by omega), Int.toNat_natCast]
      exact ih _ (drop_more hd rfl)
theorem lex_text {l : List Int} (hl : ∀ x ∈ l, Fine x) (hn : (39 :: (esc l ++ [39])).length ≤ 8192) (hf : l.length ≤ (esc l).length) : lex (39 :: (esc l ++ [39])) = .good [⟨2, [], litText l, 0⟩] := by
  have hrest : Spec.Bytes (esc l ++ [39]) := bytes_append (esc_bytes hl) (bytes_one (by omega))
  have hw : wordAt (39 :: (esc l ++ [39])) 0 = .good ⟨2, [], litText l, 0⟩ (39 :: (esc l ++ [39])).length := by
    have ho := one_low (c := 39) (by omega) hrest
    have ht := text_esc (39 :: (esc l ++ [39])) 0 l ((39 :: (esc l ++ [39])).length + 1) 1 [] hl rfl (by rw [List.length_cons, List.length_append]; omega)
    have hb : begins (39 :: (esc l ++ [39])) 0 = false := rfl
    unfold wordAt
    rw [List.drop_zero, ho, if_neg (by decide), if_neg (by rw [hb]; decide), if_pos, ht]
    · rfl
    · rfl
  unfold lex
  rw [if_neg (by omega)]
  generalize hm : (39 :: (esc l ++ [39])) = m at *
  have hm1 : m.length = (esc l).length + 2 := by rw [← hm]; simp
  have hg : gt m 0 = 39 := by rw [← hm]; rfl
  have hp : pre remark m 0 = false := by rw [← hm]; rfl
  rw [show m.length + 1 = ((esc l).length + 1 + 1) + 1 by omega, lexAt, if_neg (by omega), if_neg (by rw [hg]; decide), if_neg (by rw [hp]; decide), if_neg (by simp), hw]
  show lexAt ((esc l).length + 1 + 1) m m.length ([] ++ [_]) = _
  rw [lexAt, if_pos (Nat.le_refl _)]
  rfl
end Go.Proofs.Ytiboikbccmfedaa.Kx
