/- Signs and bytes in plain mathematics: what a sign's bytes are, when a list of bytes begins with a sign, and that a list of bytes is read in one way. Conditions: none. -/
import Derived.WalkKit
namespace Go.Proofs.Ytollglblkbjgjaa.Spec

def good (a : Int) : Bool := decide (0 ≤ a ∧ a < 55296 ∨ 57343 < a ∧ a < 1114112)
def enc (a : Int) : List Int :=
 if a < 128 then [a] else if a < 2048 then [192 + a / 64, 128 + a % 64] else if a < 65536 then [224 + a / 4096, 128 + a / 64 % 64, 128 + a % 64]
 else [240 + a / 262144, 128 + a / 4096 % 64, 128 + a / 64 % 64, 128 + a % 64]
def encs (l : List Int) : List Int := l.flatMap enc
def Bytes (l : List Int) : Prop := ∀ x ∈ l, 0 ≤ x ∧ x ≤ 255
/-- no sign's bytes stand at the list's head -/
def NoOne (l : List Int) : Prop := ∀ m, good m = true → ¬ ∃ r, l = enc m ++ r

theorem good_iff {a : Int} : good a = true ↔ (0 ≤ a ∧ a < 55296 ∨ 57343 < a ∧ a < 1114112) := by unfold good; exact decide_eq_true_iff

theorem enc_cases {m : Int} (h : good m = true) {l r : List Int} (e : l = enc m ++ r) :
  (m < 128 ∧ 0 ≤ m ∧ l = m :: r ∧ enc m = [m]) ∨
  (∃ c d, 192 ≤ c ∧ c < 224 ∧ 128 ≤ d ∧ d < 192 ∧ m = (c - 192) * 64 + (d - 128) ∧ 128 ≤ m ∧ m < 2048 ∧ l = c :: d :: r ∧ enc m = [c, d]) ∨
  (∃ c d f, 224 ≤ c ∧ c < 240 ∧ 128 ≤ d ∧ d < 192 ∧ 128 ≤ f ∧ f < 192 ∧ m = ((c - 224) * 64 + (d - 128)) * 64 + (f - 128) ∧ 2048 ≤ m ∧ m < 65536 ∧ l = c :: d :: f :: r ∧ enc m = [c, d, f]) ∨
  (∃ c d f g, 240 ≤ c ∧ c < 248 ∧ 128 ≤ d ∧ d < 192 ∧ 128 ≤ f ∧ f < 192 ∧ 128 ≤ g ∧ g < 192 ∧ m = (((c - 240) * 64 + (d - 128)) * 64 + (f - 128)) * 64 + (g - 128) ∧ 65536 ≤ m ∧ l = c :: d :: f :: g :: r ∧ enc m = [c, d, f, g]) := by
 rw [good_iff] at h
 unfold enc at e ⊢
 by_cases h1 : m < 128
 ·rw [if_pos h1] at e ⊢
  exact .inl ⟨h1, by omega, by simpa using e, rfl⟩
 ·rw [if_neg h1] at e ⊢
  by_cases h2 : m < 2048
  ·rw [if_pos h2] at e ⊢
   exact .inr (.inl ⟨_, _, by omega, by omega, by omega, by omega, by omega, by omega, h2, by simpa using e, rfl⟩)
  ·rw [if_neg h2] at e ⊢
   by_cases h3 : m < 65536
   ·rw [if_pos h3] at e ⊢
    exact .inr (.inr (.inl ⟨_, _, _, by omega, by omega, by omega, by omega, by omega, by omega, by omega, by omega, h3, by simpa using e, rfl⟩))
   ·rw [if_neg h3] at e ⊢
    exact .inr (.inr (.inr ⟨_, _, _, _, by omega, by omega, by omega, by omega, by omega, by omega, by omega, by omega, by omega, by omega, by simpa using e, rfl⟩))

theorem enc_ne (m : Int) : enc m ≠ [] := by unfold enc; split <;> (try split) <;> (try split) <;> simp

/-- a sign's bytes are none's begin -/
theorem enc_unique {m n : Int} (hm : good m = true) (hn : good n = true) {r s : List Int} (e : enc m ++ r = enc n ++ s) : m = n ∧ r = s := by
 have e1 := enc_cases hm (l := enc m ++ r) rfl
 have e2 := enc_cases hn (l := enc m ++ r) e
 generalize enc m ++ r = l at e1 e2
 rcases e1 with ⟨h1, h1', rfl, _⟩ | ⟨c, d, h1, h2, h3, h4, h5, _, _, rfl, _⟩ | ⟨c, d, f, h1, h2, h3, h4, h5, h6, h7, _, _, rfl, _⟩ | ⟨c, d, f, g, h1, h2, h3, h4, h5, h6, h7, h8, h9, _, rfl, _⟩ <;>
 rcases e2 with ⟨k1, k1', k, _⟩ | ⟨c', d', k1, k2, k3, k4, k5, _, _, k, _⟩ | ⟨c', d', f', k1, k2, k3, k4, k5, k6, k7, _, _, k, _⟩ | ⟨c', d', f', g', k1, k2, k3, k4, k5, k6, k7, k8, k9, _, k, _⟩ <;>
 simp only [List.cons.injEq] at k <;> first | omega | (obtain ⟨a, b⟩ := k; exact ⟨a, b⟩) | (obtain ⟨a, b, z⟩ := k; exact ⟨by omega, z⟩) | (obtain ⟨a, b, c1, z⟩ := k; exact ⟨by omega, z⟩) | (obtain ⟨a, b, c1, d1, z⟩ := k; exact ⟨by omega, z⟩)

theorem noOne_nil : NoOne [] := fun m _ ⟨_, h⟩ => enc_ne m (List.append_eq_nil_iff.1 h.symm).1

/-- a list of bytes is read in one way -/
theorem read_unique : ∀ (A B : List Int) (r s : List Int), (∀ x ∈ A, good x = true) → (∀ x ∈ B, good x = true) → NoOne r → NoOne s → encs A ++ r = encs B ++ s → A = B ∧ r = s
 | [], [], r, s, _, _, _, _, h => ⟨rfl, by simpa [encs] using h⟩
 | [], b :: B, r, s, _, hB, hr, _, h => by
  exact absurd ⟨encs B ++ s, by simpa [encs] using h⟩ (hr b (hB b (by simp)))
 | a :: A, [], r, s, hA, _, _, hs, h => by
  exact absurd ⟨encs A ++ r, by simpa [encs] using h.symm⟩ (hs a (hA a (by simp)))
 | a :: A, b :: B, r, s, hA, hB, hr, hs, h => by
  have h' : enc a ++ (encs A ++ r) = enc b ++ (encs B ++ s) := by simpa [encs] using h
  obtain ⟨rfl, h2⟩ := enc_unique (hA a (by simp)) (hB b (by simp)) h'
  obtain ⟨rfl, h3⟩ := read_unique A B r s (fun x hx => hA x (by simp [hx])) (fun x hx => hB x (by simp [hx])) hr hs h2
  exact ⟨rfl, h3⟩

/-! ### the first sign, as it is found by its first byte -/
def contv (v : Int) : List Int → Option Int
 | [] => some v
 | d :: r => if 128 ≤ d ∧ d < 192 then contv (v * 64 + (d - 128)) r else none
def fin (k : Int) : Option Int → Int × Int
 | none => (0, 0)
 | some n => if good n = true ∧ ((enc n).length : Int) = k then (n, k) else (0, 0)
def one : List Int → Int × Int
 | [] => (0, 0)
 | c :: t =>
  if c < 128 then fin 1 (some c) else if c < 192 ∨ 248 ≤ c then (0, 0)
  else if c < 224 then (if t.length < 1 then (0, 0) else fin 2 (contv (c - 192) (t.take 1)))
  else if c < 240 then (if t.length < 2 then (0, 0) else fin 3 (contv (c - 224) (t.take 2)))
  else (if t.length < 3 then (0, 0) else fin 4 (contv (c - 240) (t.take 3)))

def IsOne (l : List Int) (p : Int × Int) : Prop := good p.1 = true ∧ p.2 = ((enc p.1).length : Int) ∧ ∃ r, l = enc p.1 ++ r

theorem one_spec (l : List Int) (hl : Bytes l) : IsOne l (one l) ∨ (one l = (0, 0) ∧ NoOne l) := by
 cases l with
 | nil => exact .inr ⟨rfl, noOne_nil⟩
 | cons c t =>
  have hc := hl c (by simp)
  rw [one]
  by_cases h1 : c < 128
  ·rw [if_pos h1]
   have g : good c = true := good_iff.2 (by omega)
   have e : enc c = [c] := by unfold enc; rw [if_pos h1]
   refine .inl ?_
   rw [fin]
   rw [if_pos ⟨g, by rw [e]; rfl⟩]
   exact ⟨g, by rw [e]; rfl, t, by rw [e]; rfl⟩
  rw [if_neg h1]
  by_cases h2 : c < 192 ∨ 248 ≤ c
  ·rw [if_pos h2]
   refine .inr ⟨rfl, fun m hm ⟨r, e⟩ => ?_⟩
   rcases enc_cases hm e with ⟨_, _, k, _⟩ | ⟨c', d', _, _, _, _, _, _, _, k, _⟩ | ⟨c', d', f', _, _, _, _, _, _, _, _, _, k, _⟩ | ⟨c', d', f', g', _, _, _, _, _, _, _, _, _, _, k, _⟩ <;> simp only [List.cons.injEq] at k <;> omega
  rw [if_neg h2]
  by_cases h3 : c < 224
  ·rw [if_pos h3]
   by_cases h4 : t.length < 1
   ·rw [if_pos h4]
    refine .inr ⟨rfl, fun m hm ⟨r, e⟩ => ?_⟩
    rcases enc_cases hm e with ⟨_, _, k, _⟩ | ⟨c', d', _, _, _, _, _, _, _, k, _⟩ | ⟨c', d', f', _, _, _, _, _, _, _, _, _, k, _⟩ | ⟨c', d', f', g', _, _, _, _, _, _, _, _, _, _, k, _⟩ <;> simp only [List.cons.injEq] at k <;> (try (have kk := k.2; subst kk; simp at h4)) <;> omega
   rw [if_neg h4]
   obtain ⟨d, t, rfl⟩ : ∃ d t', t = d :: t' := by cases t with | nil => simp at h4 | cons d t => exact ⟨d, t, rfl⟩
   have no : ∀ m, good m = true → (∃ r, c :: d :: t = enc m ++ r) → 128 ≤ d ∧ d < 192 ∧ m = (c - 192) * 64 + (d - 128) ∧ enc m = [c, d] := by
    intro m hm ⟨r, e⟩
    rcases enc_cases hm e with ⟨_, _, k, _⟩ | ⟨c', d', _, _, _, _, _, _, _, k, ke⟩ | ⟨c', d', f', _, _, _, _, _, _, _, _, _, k, _⟩ | ⟨c', d', f', g', _, _, _, _, _, _, _, _, _, _, k, _⟩ <;> simp only [List.cons.injEq] at k
    ·omega
    ·obtain ⟨rfl, rfl, _⟩ := k; exact ⟨by omega, by omega, by omega, ke⟩
    ·omega
    ·omega
   simp only [List.take_succ_cons, List.take_zero, contv]
   by_cases h5 : 128 ≤ d ∧ d < 192
   ·rw [if_pos h5]
    rw [fin]
    by_cases h6 : good ((c - 192) * 64 + (d - 128)) = true ∧ ((enc ((c - 192) * 64 + (d - 128))).length : Int) = 2
    ·rw [if_pos h6]
     obtain ⟨g, gl⟩ := h6
     refine .inl ⟨g, gl.symm, t, ?_⟩
     show c :: d :: t = enc ((c - 192) * 64 + (d - 128)) ++ t
     generalize hm : (c - 192) * 64 + (d - 128) = m at g gl
     rcases enc_cases g (l := enc m ++ t) rfl with ⟨_, _, _, ke⟩ | ⟨c', d', _, _, _, _, _, _, _, k, ke⟩ | ⟨c', d', f', _, _, _, _, _, _, _, _, _, k, ke⟩ | ⟨c', d', f', g', _, _, _, _, _, _, _, _, _, _, k, ke⟩ <;> rw [ke] at gl <;> simp at gl
     rw [ke]
     obtain rfl : c = c' := by omega
     obtain rfl : d = d' := by omega
     rfl
    ·rw [if_neg h6]
     refine .inr ⟨rfl, fun m hm he => h6 ?_⟩
     obtain ⟨_, _, rfl, ke⟩ := no m hm he
     exact ⟨hm, by rw [ke]; rfl⟩
   ·rw [if_neg h5]
    exact .inr ⟨rfl, fun m hm he => h5 ⟨(no m hm he).1, (no m hm he).2.1⟩⟩
  rw [if_neg h3]
  by_cases h3' : c < 240
  ·rw [if_pos h3']
   by_cases h4 : t.length < 2
   ·rw [if_pos h4]
    refine .inr ⟨rfl, fun m hm ⟨r, e⟩ => ?_⟩
    rcases enc_cases hm e with ⟨_, _, k, _⟩ | ⟨c', d', _, _, _, _, _, _, _, k, _⟩ | ⟨c', d', f', _, _, _, _, _, _, _, _, _, k, _⟩ | ⟨c', d', f', g', _, _, _, _, _, _, _, _, _, _, k, _⟩ <;> simp only [List.cons.injEq] at k <;> (try (have kk := k.2; subst kk; simp at h4)) <;> omega
   rw [if_neg h4]
   obtain ⟨d, f, t, rfl⟩ : ∃ d f t', t = d :: f :: t' := by
    match t, h4 with
    | d :: f :: t, _ => exact ⟨d, f, t, rfl⟩
    | [_], h => simp at h
    | [], h => simp at h
   have no : ∀ m, good m = true → (∃ r, c :: d :: f :: t = enc m ++ r) → (128 ≤ d ∧ d < 192) ∧ (128 ≤ f ∧ f < 192) ∧ m = ((c - 224) * 64 + (d - 128)) * 64 + (f - 128) ∧ enc m = [c, d, f] := by
    intro m hm ⟨r, e⟩
    rcases enc_cases hm e with ⟨_, _, k, _⟩ | ⟨c', d', _, _, _, _, _, _, _, k, ke⟩ | ⟨c', d', f', _, _, _, _, _, _, _, _, _, k, ke⟩ | ⟨c', d', f', g', _, _, _, _, _, _, _, _, _, _, k, _⟩ <;> simp only [List.cons.injEq] at k
    ·omega
    ·omega
    ·obtain ⟨rfl, rfl, rfl, _⟩ := k; exact ⟨by omega, by omega, by omega, ke⟩
    ·omega
   simp only [List.take_succ_cons, List.take_zero, contv]
   by_cases h5 : 128 ≤ d ∧ d < 192
   ·rw [if_pos h5]
    by_cases h5' : 128 ≤ f ∧ f < 192
    ·rw [if_pos h5']
     rw [fin]
     by_cases h6 : good (((c - 224) * 64 + (d - 128)) * 64 + (f - 128)) = true ∧ ((enc (((c - 224) * 64 + (d - 128)) * 64 + (f - 128))).length : Int) = 3
     ·rw [if_pos h6]
      obtain ⟨g, gl⟩ := h6
      refine .inl ⟨g, gl.symm, t, ?_⟩
      show c :: d :: f :: t = enc (((c - 224) * 64 + (d - 128)) * 64 + (f - 128)) ++ t
      generalize hm : ((c - 224) * 64 + (d - 128)) * 64 + (f - 128) = m at g gl
      rcases enc_cases g (l := enc m ++ t) rfl with ⟨_, _, _, ke⟩ | ⟨c', d', _, _, _, _, _, _, _, k, ke⟩ | ⟨c', d', f', _, _, _, _, _, _, _, _, _, k, ke⟩ | ⟨c', d', f', g', _, _, _, _, _, _, _, _, _, _, k, ke⟩ <;> rw [ke] at gl <;> simp at gl
      rw [ke]
      obtain rfl : c = c' := by omega
      obtain rfl : d = d' := by omega
      obtain rfl : f = f' := by omega
      rfl
     ·rw [if_neg h6]
      refine .inr ⟨rfl, fun m hm he => h6 ?_⟩
      obtain ⟨_, _, rfl, ke⟩ := no m hm he
      exact ⟨hm, by rw [ke]; rfl⟩
    ·rw [if_neg h5']
     exact .inr ⟨rfl, fun m hm he => h5' (no m hm he).2.1⟩
   ·rw [if_neg h5]
    exact .inr ⟨rfl, fun m hm he => h5 (no m hm he).1⟩
  rw [if_neg h3']
  by_cases h4 : t.length < 3
  ·rw [if_pos h4]
   refine .inr ⟨rfl, fun m hm ⟨r, e⟩ => ?_⟩
   rcases enc_cases hm e with ⟨_, _, k, _⟩ | ⟨c', d', _, _, _, _, _, _, _, k, _⟩ | ⟨c', d', f', _, _, _, _, _, _, _, _, _, k, _⟩ | ⟨c', d', f', g', _, _, _, _, _, _, _, _, _, _, k, _⟩ <;> simp only [List.cons.injEq] at k <;> (try (have kk := k.2; subst kk; simp at h4)) <;> omega
  rw [if_neg h4]
  obtain ⟨d, f, q, t, rfl⟩ : ∃ d f q t', t = d :: f :: q :: t' := by
   match t, h4 with
   | d :: f :: q :: t, _ => exact ⟨d, f, q, t, rfl⟩
   | [_, _], h => simp at h
   | [_], h => simp at h
   | [], h => simp at h
  have no : ∀ m, good m = true → (∃ r, c :: d :: f :: q :: t = enc m ++ r) → (128 ≤ d ∧ d < 192) ∧ (128 ≤ f ∧ f < 192) ∧ (128 ≤ q ∧ q < 192) ∧ m = (((c - 240) * 64 + (d - 128)) * 64 + (f - 128)) * 64 + (q - 128) ∧ enc m = [c, d, f, q] := by
   intro m hm ⟨r, e⟩
   rcases enc_cases hm e with ⟨_, _, k, _⟩ | ⟨c', d', _, _, _, _, _, _, _, k, ke⟩ | ⟨c', d', f', _, _, _, _, _, _, _, _, _, k, ke⟩ | ⟨c', d', f', g', _, _, _, _, _, _, _, _, _, _, k, ke⟩ <;> simp only [List.cons.injEq] at k
   ·omega
   ·omega
   ·omega
   ·obtain ⟨rfl, rfl, rfl, rfl, _⟩ := k; exact ⟨by omega, by omega, by omega, by omega, ke⟩
  simp only [List.take_succ_cons, List.take_zero, contv]
  by_cases h5 : 128 ≤ d ∧ d < 192
  ·rw [if_pos h5]
   by_cases h5' : 128 ≤ f ∧ f < 192
   ·rw [if_pos h5']
    by_cases h5'' : 128 ≤ q ∧ q < 192
    ·rw [if_pos h5'']
     rw [fin]
     by_cases h6 : good ((((c - 240) * 64 + (d - 128)) * 64 + (f - 128)) * 64 + (q - 128)) = true ∧ ((enc ((((c - 240) * 64 + (d - 128)) * 64 + (f - 128)) * 64 + (q - 128))).length : Int) = 4
     ·rw [if_pos h6]
      obtain ⟨g, gl⟩ := h6
      refine .inl ⟨g, gl.symm, t, ?_⟩
      show c :: d :: f :: q :: t = enc ((((c - 240) * 64 + (d - 128)) * 64 + (f - 128)) * 64 + (q - 128)) ++ t
      generalize hm : (((c - 240) * 64 + (d - 128)) * 64 + (f - 128)) * 64 + (q - 128) = m at g gl
      rcases enc_cases g (l := enc m ++ t) rfl with ⟨_, _, _, ke⟩ | ⟨c', d', _, _, _, _, _, _, _, k, ke⟩ | ⟨c', d', f', _, _, _, _, _, _, _, _, _, k, ke⟩ | ⟨c', d', f', g', _, _, _, _, _, _, _, _, _, _, k, ke⟩ <;> rw [ke] at gl <;> simp at gl
      rw [ke]
      obtain rfl : c = c' := by omega
      obtain rfl : d = d' := by omega
      obtain rfl : f = f' := by omega
      obtain rfl : q = g' := by omega
      rfl
     ·rw [if_neg h6]
      refine .inr ⟨rfl, fun m hm he => h6 ?_⟩
      obtain ⟨_, _, _, rfl, ke⟩ := no m hm he
      exact ⟨hm, by rw [ke]; rfl⟩
    ·rw [if_neg h5'']
     exact .inr ⟨rfl, fun m hm he => h5'' (no m hm he).2.2.1⟩
   ·rw [if_neg h5']
    exact .inr ⟨rfl, fun m hm he => h5' (no m hm he).2.1⟩
  ·rw [if_neg h5]
   exact .inr ⟨rfl, fun m hm he => h5 (no m hm he).1⟩
end Go.Proofs.Ytollglblkbjgjaa.Spec
