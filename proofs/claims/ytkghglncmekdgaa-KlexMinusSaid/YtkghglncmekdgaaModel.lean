/- The words of K in plain mathematics, over a text's bytes: where each word ends, what it says, and where there is none. Conditions: none. -/
import Derived.Test.YtkghglncmekdgaaSpec
namespace Go.Proofs.Ytkghglncmekdgaa.Kx

def dig (c : Int) : Bool := decide (48 ≤ c) && decide (c ≤ 57)
def low (c : Int) : Bool := decide (97 ≤ c) && decide (c ≤ 122)
def alnum (c : Int) : Bool := low c || dig c
def blank (c : Int) : Bool := c == 32
/-- how many stand at the head that are such -/
def span (p : Int → Bool) : List Int → Nat
  | [] => 0
  | c :: t => if p c then span p t + 1 else 0
def gt (l : List Int) (i : Nat) : Int := l.getD i 0
/-- the byte ahead of a place -/
def prev (l : List Int) : Nat → Int
  | 0 => 0
  | k + 1 => gt l k
def behind (c : Int) : Bool := low c || dig c || (c == 41 || c == 93 || c == 125 || c == 34)
def begins (l : List Int) (i : Nat) : Bool := dig (gt l i) || (gt l i == 45 && dig (gt l (i + 1)) && !behind (prev l i))
def val (ds : List Int) : Int := ds.foldl (fun n d => n * 10 + (d - 48)) 0
/-- a number, the place behind it, whether it fits -/
def numAt (l : List Int) (i : Nat) : Int × Nat × Bool :=
  let j := if gt l i = 45 then i + 1 else i
  let k := span dig (l.drop j)
  let v := val ((l.drop j).take k)
  if gt l i = 45 then (-v, j + k, decide (v ≤ 9223372036854775808)) else (v, j + k, decide (v < 9223372036854775808))
inductive Nums where
  | bad (at_ : Nat)
  | good (xs : List Int) (at_ : Nat)
def numsAt : Nat → List Int → Nat → List Int → Nums
  | 0, _, i, _ => .bad i
  | f + 1, l, i, acc =>
    if (numAt l i).2.2 then
      if span blank (l.drop (numAt l i).2.1) = 0 ∨ begins l ((numAt l i).2.1 + span blank (l.drop (numAt l i).2.1)) = false then .good (acc ++ [(numAt l i).1]) (numAt l i).2.1
      else numsAt f l ((numAt l i).2.1 + span blank (l.drop (numAt l i).2.1)) (acc ++ [(numAt l i).1])
    else .bad i
inductive Text where
  | bad (err : Int) (at_ : Nat)
  | good (xs : List Int) (at_ : Nat)
def textAt : Nat → List Int → Nat → Nat → List Int → Text
  | 0, _, from_, _, _ => .bad 2 from_
  | f + 1, l, from_, i, acc =>
    if i < l.length then
      if (Spec.one (l.drop i)).2 = 0 then .bad 3 i
      else if (Spec.one (l.drop i)).1 = 34 then .good acc (i + 1)
      else if (Spec.one (l.drop i)).1 = 92 ∧ (gt l (i + 1) = 34 ∨ gt l (i + 1) = 92) then textAt f l from_ (i + 2) (acc ++ [gt l (i + 1)])
      else if (Spec.one (l.drop i)).1 = 92 ∨ (Spec.one (l.drop i)).1 < 32 ∨ (Spec.one (l.drop i)).1 = 127 then .bad 2 i
      else textAt f l from_ (i + (Spec.one (l.drop i)).2.toNat) (acc ++ [(Spec.one (l.drop i)).1])
    else .bad 2 from_
def nameOk (t : List Int) : Bool := t == [120] || t == [121] || (decide (t.length ≤ 8) && !(t.any fun c => c == 120 || c == 121 || c == 122))
def signs : List Int := [43, 45, 42, 37, 38, 124, 60, 62, 61, 126, 33, 35, 95, 44, 94, 63, 64, 47, 92]
def sign (c : Int) : Int :=
  if c = 58 then 7 else if c = 40 ∨ c = 123 ∨ c = 91 then 5 else if c = 41 ∨ c = 125 ∨ c = 93 then 6 else if c ∈ signs then 4 else 0

structure Lit where
  shape : List Int
  cells : List (Int × Int)
  deriving DecidableEq
structure Tok where
  kind : Int
  text : List Int
  lit : Lit
  at_ : Nat
  deriving DecidableEq
def litNums (xs : List Int) : Lit := if xs.length = 1 then ⟨[], xs.map fun x => (0, x)⟩ else ⟨[(xs.length : Int)], xs.map fun x => (0, x)⟩
def litText (xs : List Int) : Lit := if xs.length = 1 then ⟨[], xs.map fun x => (1, x)⟩ else ⟨[(xs.length : Int)], xs.map fun x => (1, x)⟩
inductive Word where
  | bad (err : Int) (at_ : Nat)
  | good (t : Tok) (at_ : Nat)
def wordAt (l : List Int) (i : Nat) : Word :=
  if (Spec.one (l.drop i)).2 = 0 then .bad 3 i
  else if begins l i then
    match numsAt (l.length + 1) l i [] with
    | .bad j => .bad 2 j
    | .good xs j => .good ⟨1, [], litNums xs, i⟩ j
  else if gt l i = 34 then
    match textAt (l.length + 1) l i (i + 1) [] with
    | .bad e j => .bad e j
    | .good xs j => .good ⟨2, [], litText xs, i⟩ j
  else if low (gt l i) then
    if nameOk ((l.drop i).take (span alnum (l.drop i))) then .good ⟨3, (l.drop i).take (span alnum (l.drop i)), ⟨[], []⟩, i⟩ (i + span alnum (l.drop i)) else .bad 2 i
  else if sign (gt l i) = 0 then .bad 2 i
  else .good ⟨sign (gt l i), [gt l i], ⟨[], []⟩, i⟩ (i + 1)
inductive Res where
  | bad (err : Int) (at_ : Nat)
  | good (ts : List Tok)
  deriving DecidableEq
def lexAt : Nat → List Int → Nat → List Tok → Res
  | 0, _, _, _ => .bad 0 0
  | f + 1, l, i, acc =>
    if l.length ≤ i + span blank (l.drop i) ∨ (gt l (i + span blank (l.drop i)) = 47 ∧ (i + span blank (l.drop i) = 0 ∨ prev l (i + span blank (l.drop i)) = 32)) then .good acc
    else if acc.length = 2048 then .bad 14 (i + span blank (l.drop i))
    else match wordAt l (i + span blank (l.drop i)) with
      | .bad e j => .bad e j
      | .good t j => lexAt f l j (acc ++ [t])
/-- a text's words, or what is wrong with it and where -/
def lex (l : List Int) : Res := if 8192 < l.length then .bad 14 0 else lexAt (l.length + 1) l 0 []

example : lex [97, 45, 49] = .good [⟨3, [97], ⟨[], []⟩, 0⟩, ⟨4, [45], ⟨[], []⟩, 1⟩, ⟨1, [], ⟨[], [(0, 1)]⟩, 2⟩] := by decide +kernel
example : lex [49, 32, 34, 97] = .bad 2 2 := by decide +kernel

theorem span_le (p : Int → Bool) : ∀ l : List Int, span p l ≤ l.length
  | [] => Nat.le_refl _
  | c :: t => by
    simp only [span]
    split
    · have := span_le p t; simp only [List.length_cons]; omega
    · exact Nat.zero_le _
theorem span_lt (p : Int → Bool) : ∀ (l : List Int) (k : Nat), k < span p l → p (l.getD k 0) = true
  | [], k, h => by simp [span] at h
  | c :: t, k, h => by
    simp only [span] at h
    split at h
    · rename_i hc
      cases k with
      | zero => simpa using hc
      | succ k => simpa using span_lt p t k (by omega)
    · omega
theorem span_end (p : Int → Bool) : ∀ l : List Int, span p l < l.length → p (l.getD (span p l) 0) = false
  | [], h => by simp at h
  | c :: t, h => by
    by_cases hc : p c = true
    · have e : span p (c :: t) = span p t + 1 := by simp [span, hc]
      rw [e] at h ⊢
      simpa using span_end p t (by simpa using h)
    · have e : span p (c :: t) = 0 := by simp [span, hc]
      rw [e]
      simpa using hc
theorem gt_drop (l : List Int) (i k : Nat) : gt l (i + k) = (l.drop i).getD k 0 := by simp [gt, List.getD_eq_getElem?_getD]
theorem val_snoc (ds : List Int) (d : Int) : val (ds ++ [d]) = val ds * 10 + (d - 48) := by simp [val]
theorem val_nonneg_aux : ∀ (ds : List Int) (n : Int), 0 ≤ n → (∀ d ∈ ds, 48 ≤ d) → 0 ≤ ds.foldl (fun n d => n * 10 + (d - 48)) n
  | [], n, h, _ => h
  | d :: ds, n, h, hd => val_nonneg_aux ds _ (by show 0 ≤ n * 10 + (d - 48); have := hd d (by simp); omega) (fun x hx => hd x (by simp [hx]))
theorem val_nonneg (ds : List Int) (h : ∀ d ∈ ds, 48 ≤ d) : 0 ≤ val ds := val_nonneg_aux ds 0 (Int.le_refl _) h
theorem dig_iff (c : Int) : dig c = true ↔ 48 ≤ c ∧ c ≤ 57 := by simp [dig]
theorem span_all (p : Int → Bool) (l : List Int) : ∀ x ∈ l.take (span p l), p x = true := by
  intro x hx
  obtain ⟨k, hk, rfl⟩ := List.getElem_of_mem hx
  rw [List.length_take] at hk
  have := span_lt p l k (by omega)
  rw [List.getElem_take]
  rw [List.getD_eq_getElem?_getD, List.getElem?_eq_getElem (by omega)] at this
  exact this
theorem gt_lt {l : List Int} {i : Nat} (h : gt l i ≠ 0) : i < l.length := by
  rcases Nat.lt_or_ge i l.length with h1 | h1
  · exact h1
  · exact absurd (by unfold gt; rw [List.getD_eq_getElem?_getD, List.getElem?_eq_none h1]; rfl) h
theorem begins_lt {l : List Int} {i : Nat} (h : begins l i = true) : i < l.length := by
  refine gt_lt fun h0 => ?_
  unfold begins at h
  rw [h0] at h
  revert h
  simp [dig]
theorem span_pos {p : Int → Bool} {l : List Int} {i : Nat} (h : p (gt l i) = true) (hi : i < l.length) : 1 ≤ span p (l.drop i) := by
  rw [List.drop_eq_getElem_cons hi]
  unfold gt at h
  rw [List.getD_eq_getElem?_getD, List.getElem?_eq_getElem hi] at h
  have h' : p l[i] = true := h
  simp only [span, h', if_true]
  omega
theorem num_step {l : List Int} {i : Nat} (h : begins l i = true) : i + 1 ≤ (numAt l i).2.1 ∧ (numAt l i).2.1 ≤ l.length := by
  have hlt := begins_lt h
  unfold begins at h
  unfold numAt
  by_cases hc : gt l i = 45
  · rw [if_pos hc]
    have hd : dig (gt l (i + 1)) = true := by
      rw [hc] at h
      cases h1 : dig (gt l (i + 1))
      · rw [h1] at h; revert h; simp [dig]
      · rfl
    have h1 : i + 1 < l.length := gt_lt (fun h0 => by rw [h0] at hd; revert hd; simp [dig])
    have h2 := span_pos (p := dig) hd h1
    have h3 := span_le dig (l.drop (i + 1))
    rw [List.length_drop] at h3
    rw [if_pos hc]
    exact ⟨by show i + 1 ≤ i + 1 + span dig (l.drop (i + 1)); omega, by show i + 1 + span dig (l.drop (i + 1)) ≤ l.length; omega⟩
  · have hd : dig (gt l i) = true := by
      cases h1 : dig (gt l i)
      · rw [h1, beq_eq_false_iff_ne.2 hc] at h; revert h; simp
      · rfl
    have h2 := span_pos (p := dig) hd hlt
    have h3 := span_le dig (l.drop i)
    rw [List.length_drop] at h3
    rw [if_neg hc, if_neg hc]
    exact ⟨by show i + 1 ≤ i + span dig (l.drop i); omega, by show i + span dig (l.drop i) ≤ l.length; omega⟩
end Go.Proofs.Ytkghglncmekdgaa.Kx
