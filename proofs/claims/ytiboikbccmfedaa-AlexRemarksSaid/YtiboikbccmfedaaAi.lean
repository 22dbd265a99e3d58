/- The words of APL that are always the same, in plain mathematics: which group a sign belongs to does not hang on the order of looking. Conditions: none. -/
import Derived.Test.YtiboikbccmfedaaModel2
namespace Go.Proofs.Ytiboikbccmfedaa.Kx

theorem has_mem : ∀ {l w : List Int}, has l w = true → ∀ c ∈ w, c ∈ l
  | [], w, h, c, hc => by
    cases w with
    | nil => cases hc
    | cons _ _ => cases h
  | d :: l, w, h, c, hc => by
    rw [has, Bool.or_eq_true] at h
    rcases h with h | h
    · exact (List.isPrefixOf_iff_prefix.1 h).subset hc
    · exact List.mem_cons_of_mem _ (has_mem h c hc)
theorem apart_vo : ∀ c ∈ verbs, c ∉ openers := by decide
theorem apart_vc : ∀ c ∈ verbs, c ∉ closers := by decide
theorem apart_oc : ∀ c ∈ openers, c ∉ closers := by decide
theorem has_apart {a b w : List Int} (hab : ∀ c ∈ a, c ∉ b) (hw : w ≠ []) (ha : has a w = true) : has b w = false := by
  cases hq : has b w
  · rfl
  · cases w with
    | nil => exact absurd rfl hw
    | cons c t => exact absurd (has_mem hq c List.mem_cons_self) (hab c (has_mem ha c List.mem_cons_self))
/-- the three groups with their kinds -/
def groups : List (List Int × Int) := [(verbs, 4), (openers, 5), (closers, 6)]
/-- whichever group holds a sign tells its kind -/
theorem sign_of {w : List Int} (hw : w ≠ []) {x : List Int × Int} (hx : x ∈ groups) (h : has x.1 w = true) : sign w = x.2 := by
  have h3 : x = (verbs, 4) ∨ x = (openers, 5) ∨ x = (closers, 6) := by simpa [groups] using hx
  unfold sign
  rcases h3 with rfl | rfl | rfl
  · rw [if_pos h]
  · have hv : has verbs w = false := by
      cases hq : has verbs w
      · rfl
      · have h' : has openers w = true := h
        rw [has_apart apart_vo hw hq] at h'
        cases h'
    rw [if_neg (by rw [hv]; decide), if_pos h]
  · have hv : has verbs w = false := by
      cases hq : has verbs w
      · rfl
      · have h' : has closers w = true := h
        rw [has_apart apart_vc hw hq] at h'
        cases h'
    have ho : has openers w = false := by
      cases hq : has openers w
      · rfl
      · have h' : has closers w = true := h
        rw [has_apart apart_oc hw hq] at h'
        cases h'
    rw [if_neg (by rw [hv]; decide), if_neg (by rw [ho]; decide), if_pos h]
theorem sign_none {w : List Int} (h : ∀ x ∈ groups, has x.1 w = false) : sign w = 0 := by
  unfold sign
  rw [h (verbs, 4) (by simp [groups]), h (openers, 5) (by simp [groups]), h (closers, 6) (by simp [groups])]
  rfl
theorem sign_pos {w : List Int} (hw : w ≠ []) {x : List Int × Int} (hx : x ∈ groups) (h : has x.1 w = true) : sign w ≠ 0 := by
  rw [sign_of hw hx h]
  have h3 : x = (verbs, 4) ∨ x = (openers, 5) ∨ x = (closers, 6) := by simpa [groups] using hx
  rcases h3 with rfl | rfl | rfl <;> decide
end Go.Proofs.Ytiboikbccmfedaa.Kx
