/- The words of APL in plain mathematics, over a text's bytes: where each word ends, what it says, and where there is none. Conditions: none. -/
import Derived.Test.YtiboikbccmfedaaSpec
namespace Go.Proofs.Ytiboikbccmfedaa.Kx

def dig (c : Int) : Bool := decide (48 ≤ c) && decide (c ≤ 57)
def low (c : Int) : Bool := decide (97 ≤ c) && decide (c ≤ 119)
def alnum (c : Int) : Bool := low c || dig c
def blank (c : Int) : Bool := c == 32
/-- how many stand at the head that are such -/
def span (p : Int → Bool) : List Int → Nat
  | [] => 0
  | c :: t => if p c then span p t + 1 else 0
def gt (l : List Int) (i : Nat) : Int := l.getD i 0
/-- does a text go on so at a place -/
def pre (w : List Int) (l : List Int) (i : Nat) : Bool := w.isPrefixOf (l.drop i)
/-- the sign of numbers below 0 -/
def bar : List Int := [194, 175]
def start (l : List Int) (i : Nat) : Nat := if pre bar l i then i + 2 else i
def begins (l : List Int) (i : Nat) : Bool := dig (gt l (start l i))
def val (ds : List Int) : Int := ds.foldl (fun n d => n * 10 + (d - 48)) 0
/-- a number, the place behind it, whether it fits -/
def numAt (l : List Int) (i : Nat) : Int × Nat × Bool :=
  let j := start l i
  let k := span dig (l.drop j)
  let v := val ((l.drop j).take k)
  if pre bar l i then (-v, j + k, decide (v ≤ 9223372036854775808)) else (v, j + k, decide (v < 9223372036854775808))
inductive Nums where
  | bad (at_ : Nat)
  | good (xs : List Int) (at_ : Nat)
def numsAt : Nat → List Int → Nat → List Int → Nums
  | 0, _, i, _ => .bad i
  | f + 1, l, i, acc =>
    if (numAt l i).2.2 then
      if span blank (l.drop (numAt l i).2.1) = 0 ∨ begins l ((numAt l i).2.1 + span blank (l.drop (numAt l i).2.1)) = false then .good (acc ++ [(numAt l i).1]) (numAt l i).2.1
      else numsAt f l ((numAt l i).2.1 + span blank (l.drop (numAt l i).2.1)) (acc ++ [(numAt l i).1])
    else .bad i
inductive Text where
  | bad (err : Int) (at_ : Nat)
  | good (xs : List Int) (at_ : Nat)
def textAt : Nat → List Int → Nat → Nat → List Int → Text
  | 0, _, from_, _, _ => .bad 2 from_
  | f + 1, l, from_, i, acc =>
    if i < l.length then
      if (Spec.one (l.drop i)).2 = 0 then .bad 3 i
      else if (Spec.one (l.drop i)).1 = 39 ∧ gt l (i + 1) ≠ 39 then .good acc (i + 1)
      else if (Spec.one (l.drop i)).1 = 39 then textAt f l from_ (i + 2) (acc ++ [39])
      else if (Spec.one (l.drop i)).1 < 32 ∨ (Spec.one (l.drop i)).1 = 127 then .bad 2 i
      else textAt f l from_ (i + (Spec.one (l.drop i)).2.toNat) (acc ++ [(Spec.one (l.drop i)).1])
    else .bad 2 from_
/-- is a list part of another -/
def has : List Int → List Int → Bool
  | [], w => w.isEmpty
  | c :: l, w => w.isPrefixOf (c :: l) || has l w
def verbs : List Int := [43, 45, 195, 151, 124, 126, 226, 141, 179, 226, 141, 180, 226, 137, 162, 44, 226, 138, 150, 226, 140, 189, 226, 141, 137, 226, 141, 139, 226, 141, 146, 226, 136, 170, 226, 138, 130, 226, 138, 131, 195, 183, 226, 140, 138, 226, 140, 136, 61, 226, 137, 160, 60, 62, 226, 137, 164, 226, 137, 165, 226, 134, 145, 226, 134, 147, 226, 141, 170, 226, 136, 138, 226, 140, 191, 47, 92, 226, 141, 128, 226, 140, 183, 226, 141, 168, 226, 141, 163, 226, 139, 132]
def openers : List Int := [40, 123, 91]
def closers : List Int := [41, 125, 93]
/-- what kind of word one sign is -/
def sign (w : List Int) : Int := if has verbs w then 4 else if has openers w then 5 else if has closers w then 6 else 0
/-- words that are always the same, with their kinds -/
def fixedWords : List (List Int × Int) := [([226, 142, 149, 73, 79], 3), ([226, 141, 186], 3), ([226, 141, 181], 3), ([226, 136, 152, 46], 4), ([226, 134, 144], 7)]
/-- the word at a place that is always the same -/
def fixedAt (l : List Int) (i : Nat) : Option (List Int × Int) :=
  match fixedWords.find? fun w => pre w.1 l i with
  | some w => some w
  | none =>
    let w := (l.drop i).take (Spec.one (l.drop i)).2.toNat
    if sign w = 0 then none else some (w, sign w)
def remark : List Int := [226, 141, 157]

structure Lit where
  shape : List Int
  cells : List (Int × Int)
  deriving DecidableEq
structure Tok where
  kind : Int
  text : List Int
  lit : Lit
  at_ : Nat
  deriving DecidableEq
def litNums (xs : List Int) : Lit := if xs.length = 1 then ⟨[], xs.map fun x => (0, x)⟩ else ⟨[(xs.length : Int)], xs.map fun x => (0, x)⟩
def litText (xs : List Int) : Lit := if xs.length = 1 then ⟨[], xs.map fun x => (1, x)⟩ else ⟨[(xs.length : Int)], xs.map fun x => (1, x)⟩
inductive Word where
  | bad (err : Int) (at_ : Nat)
  | good (t : Tok) (at_ : Nat)
def wordAt (l : List Int) (i : Nat) : Word :=
  if (Spec.one (l.drop i)).2 = 0 then .bad 3 i
  else if begins l i then
    match numsAt (l.length + 1) l i [] with
    | .bad j => .bad 2 j
    | .good xs j => .good ⟨1, [], litNums xs, i⟩ j
  else if gt l i = 39 then
    match textAt (l.length + 1) l i (i + 1) [] with
    | .bad e j => .bad e j
    | .good xs j => .good ⟨2, [], litText xs, i⟩ j
  else if low (gt l i) then
    if span alnum (l.drop i) ≤ 8 then .good ⟨3, (l.drop i).take (span alnum (l.drop i)), ⟨[], []⟩, i⟩ (i + span alnum (l.drop i)) else .bad 2 i
  else match fixedAt l i with
    | none => .bad 2 i
    | some w => .good ⟨w.2, w.1, ⟨[], []⟩, i⟩ (i + w.1.length)
inductive Res where
  | bad (err : Int) (at_ : Nat)
  | good (ts : List Tok)
  deriving DecidableEq
def lexAt : Nat → List Int → Nat → List Tok → Res
  | 0, _, _, _ => .bad 0 0
  | f + 1, l, i, acc =>
    if l.length ≤ i then .good acc
    else if gt l i = 32 then lexAt f l (i + 1) acc
    else if pre remark l i then .good acc
    else if acc.length = 2048 then .bad 14 i
    else match wordAt l i with
      | .bad e j => .bad e j
      | .good t j => lexAt f l j (acc ++ [t])
/-- a text's words, or what is wrong with it and where -/
def lex (l : List Int) : Res := if 8192 < l.length then .bad 14 0 else lexAt (l.length + 1) l 0 []

example : lex [97, 226, 134, 144, 226, 141, 179, 32, 49, 32, 194, 175, 50, 32, 226, 141, 157, 32, 120] = .good [⟨3, [97], ⟨[], []⟩, 0⟩, ⟨7, [226, 134, 144], ⟨[], []⟩, 1⟩, ⟨4, [226, 141, 179], ⟨[], []⟩, 4⟩, ⟨1, [], ⟨[2], [(0, 1), (0, -2)]⟩, 8⟩] := by decide +kernel
example : lex [49, 32, 39, 97] = .bad 2 2 := by decide +kernel

theorem span_le (p : Int → Bool) : ∀ l : List Int, span p l ≤ l.length
  | [] => Nat.le_refl _
  | c :: t => by
    simp only [span]
    split
    · have := span_le p t; simp only [List.length_cons]; omega
    · exact Nat.zero_le _
theorem span_lt (p : Int → Bool) : ∀ (l : List Int) (k : Nat), k < span p l → p (l.getD k 0) = true
  | [], k, h => by simp [span] at h
  | c :: t, k, h => by
    simp only [span] at h
    split at h
    · rename_i hc
      cases k with
      | zero => simpa using hc
      | succ k => simpa using span_lt p t k (by omega)
    · omega
theorem span_end (p : Int → Bool) : ∀ l : List Int, span p l < l.length → p (l.getD (span p l) 0) = false
  | [], h => by simp at h
  | c :: t, h => by
    by_cases hc : p c = true
    · have e : span p (c :: t) = span p t + 1 := by simp [span, hc]
      rw [e] at h ⊢
      simpa using span_end p t (by simpa using h)
    · have e : span p (c :: t) = 0 := by simp [span, hc]
      rw [e]
      simpa using hc
theorem gt_drop (l : List Int) (i k : Nat) : gt l (i + k) = (l.drop i).getD k 0 := by simp [gt, List.getD_eq_getElem?_getD]
theorem val_snoc (ds : List Int) (d : Int) : val (ds ++ [d]) = val ds * 10 + (d - 48) := by simp [val]
theorem val_nonneg_aux : ∀ (ds : List Int) (n : Int), 0 ≤ n → (∀ d ∈ ds, 48 ≤ d) → 0 ≤ ds.foldl (fun n d => n * 10 + (d - 48)) n
  | [], n, h, _ => h
  | d :: ds, n, h, hd => val_nonneg_aux ds _ (by show 0 ≤ n * 10 + (d - 48); have := hd d (by simp); omega) (fun x hx => hd x (by simp [hx]))
theorem val_nonneg (ds : List Int) (h : ∀ d ∈ ds, 48 ≤ d) : 0 ≤ val ds := val_nonneg_aux ds 0 (Int.le_refl _) h
theorem dig_iff (c : Int) : dig c = true ↔ 48 ≤ c ∧ c ≤ 57 := by simp [dig]
theorem span_all (p : Int → Bool) (l : List Int) : ∀ x ∈ l.take (span p l), p x = true := by
  intro x hx
  obtain ⟨k, hk, rfl⟩ := List.getElem_of_mem hx
  rw [List.length_take] at hk
  have := span_lt p l k (by omega)
  rw [List.getElem_take]
  rw [List.getD_eq_getElem?_getD, List.getElem?_eq_getElem (by omega)] at this
  exact this
theorem gt_lt {l : List Int} {i : Nat} (h : gt l i ≠ 0) : i < l.length := by
  rcases Nat.lt_or_ge i l.length with h1 | h1
  · exact h1
  · exact absurd (by unfold gt; rw [List.getD_eq_getElem?_getD, List.getElem?_eq_none h1]; rfl) h
theorem pre_le {w l : List Int} {i : Nat} (h : pre w l i = true) : i + w.length ≤ l.length ∨ w = [] := by
  have h1 := (List.isPrefixOf_iff_prefix.1 h).length_le
  rw [List.length_drop] at h1
  cases w with
  | nil => exact .inr rfl
  | cons c t => simp only [List.length_cons] at h1 ⊢; exact .inl (by omega)
theorem start_le (l : List Int) (i : Nat) : i ≤ start l i := by unfold start; split <;> omega
theorem begins_start {l : List Int} {i : Nat} (h : begins l i = true) : start l i < l.length := by
  refine gt_lt fun h0 => ?_
  unfold begins at h
  rw [h0] at h
  exact absurd h (by decide)
theorem begins_lt {l : List Int} {i : Nat} (h : begins l i = true) : i < l.length := Nat.lt_of_le_of_lt (start_le l i) (begins_start h)
theorem span_pos {p : Int → Bool} {l : List Int} {i : Nat} (h : p (gt l i) = true) (hi : i < l.length) : 1 ≤ span p (l.drop i) := by
  rw [List.drop_eq_getElem_cons hi]
  unfold gt at h
  rw [List.getD_eq_getElem?_getD, List.getElem?_eq_getElem hi] at h
  have h' : p l[i] = true := h
  simp only [span, h', if_true]
  omega
theorem num_step {l : List Int} {i : Nat} (h : begins l i = true) : i + 1 ≤ (numAt l i).2.1 ∧ (numAt l i).2.1 ≤ l.length := by
  have hlt := begins_start h
  have h2 := span_pos (p := dig) h hlt
  have h3 := span_le dig (l.drop (start l i))
  rw [List.length_drop] at h3
  have h4 := start_le l i
  have e : (numAt l i).2.1 = start l i + span dig (l.drop (start l i)) := by unfold numAt; split <;> rfl
  rw [e]
  omega
end Go.Proofs.Ytiboikbccmfedaa.Kx
