/- A program in brackets is the same program; behind a function's sign it is that function's argument; brackets that lie too deep apart. Plain Lean. Conditions: none beyond each theorem's own. -/
import Derived.Test.YtollglblkbjgjaaGk
import Derived.Test.YtollglblkbjgjaaGz
import Derived.Test.YtollglblkbjgjaaGs
namespace Go.Proofs.Ytollglblkbjgjaa
open Go.RowKit

theorem kind_bare (k : Nd) : k.bare.kind = k.kind := by obtain ⟨_, _, _, _, _, _⟩ := k; rfl
theorem name_bare (k : Nd) : k.bare.name = k.name := by obtain ⟨_, _, _, _, _, _⟩ := k; rfl
theorem lit_bare (k : Nd) : k.bare.lit = k.lit := by obtain ⟨_, _, _, _, _, _⟩ := k; rfl
theorem kids_bare (k : Nd) : k.bare.kids = bares k.kids := by obtain ⟨_, _, _, _, _, _⟩ := k; rfl
mutual
theorem uses_bare (q : Int) : ∀ k : Nd, k.bare.uses q = k.uses q
 | .mk k o nm l ks a => by simp only [Nd.bare, Nd.uses, anyUses_bares q ks]
theorem anyUses_bares (q : Int) : ∀ ks : List Nd, anyUses q (bares ks) = anyUses q ks
 | [] => rfl
 | k :: ks => by simp only [bares, anyUses, uses_bare q k, anyUses_bares q ks]
end
mutual
theorem righted_bare : ∀ k : Nd, k.bare.righted = k.righted.bare
 | .mk k o nm l ks a => by
  by_cases h : k = 22 ∨ k = 23
  ·simp only [Nd.bare, Nd.righted, if_pos h]
  ·simp only [Nd.bare, Nd.righted, if_neg h, righteds_bares ks]
theorem righteds_bares : ∀ ks : List Nd, righteds (bares ks) = bares (righteds ks)
 | [] => rfl
 | k :: ks => by simp only [bares, righteds, righted_bare k, righteds_bares ks]
end
theorem bares_append : ∀ a b : List Nd, bares (a ++ b) = bares a ++ bares b
 | [], b => rfl
 | k :: a, b => by simp only [List.cons_append, bares, bares_append a b]

/-! brackets that pair -/
theorem Bal.head {L : List Tok} {i m : Nat} (h : Bal L i m) (hlt : i < m) : ∃ t, L[i]? = some t ∧ t.kind ≠ 6 ∧ (t.kind ≠ 5 → Bal L (i + 1) m) ∧ (t.kind = 5 → ∃ q u, Bal L (i + 1) q ∧ L[q]? = some u ∧ u.kind = 6 ∧ Bal L (q + 1) m ∧ i < q ∧ q < m) := by
 cases h with
 | nil => omega
 | word t h1 h2 h3 h4 => exact ⟨t, h1, h3, fun _ => h4, fun e => absurd e h2⟩
 | brack t u h1 h2 h3 h4 h5 h6 =>
  refine ⟨t, h1, by omega, fun e => absurd h2 e, fun _ => ⟨_, u, h3, h4, h5, h6, ?_, ?_⟩⟩
  ·have := h3.le; omega
  ·have := h6.le; omega
theorem Bal.some {L : List Tok} {i m : Nat} (h : Bal L i m) : ∀ p, i ≤ p → p < m → ∃ t, L[p]? = some t := by
 induction h with
 | nil i => intro p h1 h2; omega
 | @word i j t h1 h2 h3 h4 ih =>
  intro p hp1 hp2
  by_cases e : p = i
  ·exact ⟨t, by rw [e]; exact h1⟩
  ·exact ih p (by omega) hp2
 | @brack i k j t u h1 h2 h3 h4 h5 h6 ih1 ih2 =>
  intro p hp1 hp2
  by_cases e : p = i
  ·exact ⟨t, by rw [e]; exact h1⟩
  ·by_cases e2 : p < k
   ·exact ih1 p (by omega) e2
   ·by_cases e3 : p = k
    ·exact ⟨u, by rw [e3]; exact h4⟩
    ·exact ih2 p (by omega) hp2
theorem Bal.shift {L L' : List Tok} {s i m : Nat} (h : Bal L i m) : (∀ p, i ≤ p → p < m → L'[p + s]? = L[p]?) → Bal L' (i + s) (m + s) := by
 induction h with
 | nil i => intro _; exact .nil _
 | @word i j t h1 h2 h3 h4 ih =>
  intro hs
  have hle := h4.le
  refine .word t ((hs i (Nat.le_refl _) (by omega)).trans h1) h2 h3 ?_
  rw [show i + s + 1 = i + 1 + s by omega]
  exact ih fun p hp1 hp2 => hs p (by omega) hp2
 | @brack i k j t u h1 h2 h3 h4 h5 h6 ih1 ih2 =>
  intro hs
  have hle := h3.le
  have hle2 := h6.le
  refine .brack t u ((hs i (Nat.le_refl _) (by omega)).trans h1) h2 (k := k + s) ?_ ((hs k (by omega) (by omega)).trans h4) h5 ?_
  ·rw [show i + s + 1 = i + 1 + s by omega]
   exact ih1 fun p hp1 hp2 => hs p (by omega) (by omega)
  ·rw [show k + s + 1 = k + 1 + s by omega]
   exact ih2 fun p hp1 hp2 => hs p (by omega) hp2

/-- words from i to m of one text stand in another, s on; both end there -/
structure Loc (E E' : Env) (s i m : Nat) : Prop where
 bal : Bal E.L i m
 same : ∀ p, i ≤ p → p < m → E'.L[p + s]? = E.L[p]?
 stop : E.ends m = true
 stop' : E'.ends (m + s) = true
 le : m ≤ E.L.length
 le' : E.L.length + s ≤ E'.L.length
/-- one grammar -/
structure SameG (E E' : Env) : Prop where
 vs : E'.vs = E.vs
 as_ : E'.as_ = E.as_
 bs : E'.bs = E.bs
 outer : E'.outer = E.outer
 power : E'.power = E.power
 open_ : E'.open_ = E.open_
 close : E'.close = E.close
 left : E'.left = E.left
 right : E'.right = E.right
 trains : E'.trains = E.trains
 lone : E'.lone = E.lone
 square : E'.square = E.square
theorem ends_cases {E : Env} {m : Nat} (h : E.ends m = true) : E.L[m]? = none ∨ ∃ t, E.L[m]? = some t ∧ t.kind = 6 := by
 unfold Env.ends at h
 cases hm : E.L[m]? with
 | none => exact .inl rfl
 | some t =>
  rw [hm] at h
  exact .inr ⟨t, rfl, by simpa using h⟩
theorem ends_is {E : Env} {m : Nat} (h : E.ends m = true) {k : Int} (hk : k ≠ 6) (x : ByteArray) : E.is m k x = false := by
 unfold Env.ends at h
 unfold Env.is
 cases hm : E.L[m]? with
 | none => rfl
 | some t =>
  rw [hm] at h
  have : t.kind = 6 := by simpa using h
  have : (t.kind == k) = false := beq_eq_false_iff_ne.2 (by omega)
  simp [this]
theorem ends_sign {E : Env} {m : Nat} (h : E.ends m = true) (l : List ByteArray) : E.sign m l = false := by
 unfold Env.ends at h
 unfold Env.sign
 cases hm : E.L[m]? with
 | none => rfl
 | some t =>
  rw [hm] at h
  have : t.kind = 6 := by simpa using h
  have : (t.kind == 4) = false := beq_eq_false_iff_ne.2 (by omega)
  simp [this]
namespace Loc
variable {E E' : Env} {s i m : Nat}
theorem is_lt (h : Loc E E' s i m) {p : Nat} (h1 : i ≤ p) (h2 : p < m) (k : Int) (x : ByteArray) : E'.is (p + s) k x = E.is p k x := by
 unfold Env.is
 rw [h.same p h1 h2]
theorem is (h : Loc E E' s i m) {p : Nat} (h1 : i ≤ p) (h2 : p ≤ m) {k : Int} (hk : k ≠ 6) (x : ByteArray) : E'.is (p + s) k x = E.is p k x := by
 by_cases e : p < m
 ·exact h.is_lt h1 e k x
 ·obtain rfl : p = m := by omega
  rw [ends_is h.stop hk, ends_is h.stop' hk]
theorem sign (h : Loc E E' s i m) {p : Nat} (h1 : i ≤ p) (h2 : p ≤ m) (l : List ByteArray) : E'.sign (p + s) l = E.sign p l := by
 by_cases e : p < m
 ·unfold Env.sign
  rw [h.same p h1 e]
 ·obtain rfl : p = m := by omega
  rw [ends_sign h.stop, ends_sign h.stop']
theorem ends (h : Loc E E' s i m) {p : Nat} (h1 : i ≤ p) (h2 : p ≤ m) : E'.ends (p + s) = E.ends p := by
 by_cases e : p < m
 ·unfold Env.ends
  rw [h.same p h1 e]
 ·obtain rfl : p = m := by omega
  rw [h.stop, h.stop']
theorem sub (h : Loc E E' s i m) {p : Nat} (h1 : i ≤ p) (hb : Bal E.L p m) : Loc E E' s p m :=
 ⟨hb, fun q hq1 hq2 => h.same q (by omega) hq2, h.stop, h.stop', h.le, h.le'⟩
theorem le_ (h : Loc E E' s i m) : i ≤ m := h.bal.le
/-- within a bracket -/
theorem inner (h : Loc E E' s i m) {p q : Nat} {u : Tok} (h1 : i ≤ p) (hq : q < m) (hb : Bal E.L p q) (hu : E.L[q]? = some u) (h6 : u.kind = 6) : Loc E E' s p q := by
 have hpq := hb.le
 refine ⟨hb, fun r hr1 hr2 => h.same r (by omega) (by omega), ?_, ?_, by have := h.le; omega, h.le'⟩
 ·unfold Env.ends; rw [hu]; simpa using h6
 ·unfold Env.ends; rw [h.same q (by omega) hq, hu]; simpa using h6
theorem head (h : Loc E E' s i m) (hlt : i < m) : ∃ t, E.L[i]? = some t ∧ t.kind ≠ 6 ∧ (t.kind ≠ 5 → Loc E E' s (i + 1) m) ∧ (t.kind = 5 → ∃ q u, Loc E E' s (i + 1) q ∧ E.L[q]? = some u ∧ u.kind = 6 ∧ Loc E E' s (q + 1) m ∧ i < q ∧ q < m) := by
 obtain ⟨t, h1, h2, h3, h4⟩ := h.bal.head hlt
 refine ⟨t, h1, h2, fun e => h.sub (by omega) (h3 e), fun e => ?_⟩
 obtain ⟨q, u, g1, g2, g3, g4, g5, g6⟩ := h4 e
 exact ⟨q, u, h.inner (by omega) g6 g1 g2 g3, g2, g3, h.sub (by omega) g4, g5, g6⟩
theorem not_end (h : Loc E E' s i m) (hlt : i < m) : E.ends i = false := by
 obtain ⟨t, h1, h2, _⟩ := h.head hlt
 unfold Env.ends
 rw [h1]
 simpa using h2
end Loc
theorem is_kind {E : Env} {p : Nat} {k : Int} {x : ByteArray} (h : E.is p k x = true) : ∃ t, E.L[p]? = some t ∧ t.kind = k := by
 unfold Env.is at h
 cases hp : E.L[p]? with
 | none => rw [hp] at h; cases h
 | some t =>
  rw [hp] at h
  simp only [Bool.and_eq_true, beq_iff_eq] at h
  exact ⟨t, rfl, h.1⟩
theorem sign_kind {E : Env} {p : Nat} {l : List ByteArray} (h : E.sign p l = true) : ∃ t, E.L[p]? = some t ∧ t.kind = 4 := by
 unfold Env.sign at h
 cases hp : E.L[p]? with
 | none => rw [hp] at h; cases h
 | some t =>
  rw [hp] at h
  simp only [Bool.and_eq_true, beq_iff_eq] at h
  exact ⟨t, rfl, h.1⟩
theorem Loc.step {E E' : Env} {s i m : Nat} (h : Loc E E' s i m) {t : Tok} (ht : E.L[i]? = some t) (hlt : i < m) (h5 : t.kind ≠ 5) : Loc E E' s (i + 1) m := by
 obtain ⟨t', h1, _, h3, _⟩ := h.head hlt
 rw [ht] at h1
 cases h1
 exact h3 h5
theorem Loc.sign_lt {E E' : Env} {s i m : Nat} (h : Loc E E' s i m) {l : List ByteArray} (hs : E.sign i l = true) : i < m ∧ Loc E E' s (i + 1) m := by
 have hlt : i < m := by
  rcases Nat.lt_or_ge i m with h1 | h1
  ·exact h1
  ·obtain rfl : i = m := by have := h.le_; omega
   rw [ends_sign h.stop] at hs
   cases hs
 obtain ⟨t, ht, h4⟩ := sign_kind hs
 exact ⟨hlt, h.step ht hlt (by omega)⟩
theorem Loc.is4_lt {E E' : Env} {s i m : Nat} (h : Loc E E' s i m) {x : ByteArray} (hs : E.is i 4 x = true) : i < m ∧ Loc E E' s (i + 1) m := by
 have hlt : i < m := by
  rcases Nat.lt_or_ge i m with h1 | h1
  ·exact h1
  ·obtain rfl : i = m := by have := h.le_; omega
   rw [ends_is h.stop (by decide)] at hs
   cases hs
 obtain ⟨t, ht, h4⟩ := is_kind hs
 exact ⟨hlt, h.step ht hlt (by omega)⟩
theorem Loc.is5 {E E' : Env} {s i m : Nat} (h : Loc E E' s i m) {x : ByteArray} (hs : E.is i 5 x = true) : ∃ q u, Loc E E' s (i + 1) q ∧ E.L[q]? = some u ∧ u.kind = 6 ∧ Loc E E' s (q + 1) m ∧ i < q ∧ q < m := by
 have hlt : i < m := by
  rcases Nat.lt_or_ge i m with h1 | h1
  ·exact h1
  ·obtain rfl : i = m := by have := h.le_; omega
   rw [ends_is h.stop (by decide)] at hs
   cases hs
 obtain ⟨t, ht, h5⟩ := is_kind hs
 obtain ⟨t', h1, _, _, h4⟩ := h.head hlt
 rw [ht] at h1
 cases h1
 exact h4 h5
theorem Loc.pow {E E' : Env} {s i m : Nat} (hG : SameG E E') (h : Loc E E' s i m) : E'.pow (i + s) = E.pow i ∧ ∀ n, E.pow i = some n → i + 1 < m ∧ Loc E E' s (i + 2) m := by
 unfold Env.pow
 rw [hG.power, h.is (Nat.le_refl _) h.le_ (by decide)]
 by_cases hp : E.is i 4 E.power = true
 ·rw [if_pos hp, if_pos hp]
  obtain ⟨hlt, h1⟩ := h.is4_lt hp
  by_cases hlt1 : i + 1 < m
  ·rw [show i + s + 1 = i + 1 + s by omega, h.same (i + 1) (by omega) hlt1]
   refine ⟨rfl, fun n hn => ⟨hlt1, ?_⟩⟩
   obtain ⟨t, ht, _⟩ := h1.head hlt1
   rw [ht] at hn
   by_cases hk : t.kind = 1
   ·exact h1.step ht hlt1 (by omega)
   ·simp only [if_neg hk] at hn
    cases hn
  ·obtain rfl : i + 1 = m := by omega
   rw [show i + s + 1 = i + 1 + s by omega]
   have k1 : (match E.L[i + 1]? with | none => none | some t => if t.kind = 1 then timesOf t.lit t.lit.c0 t.lit.n0 else none) = none := by
    rcases ends_cases h.stop with e | ⟨t, e, h6⟩
    ·rw [e]
    ·rw [e]
     exact if_neg (by omega)
   have k2 : (match E'.L[i + 1 + s]? with | none => none | some t => if t.kind = 1 then timesOf t.lit t.lit.c0 t.lit.n0 else none) = none := by
    rcases ends_cases h.stop' with e | ⟨t, e, h6⟩
    ·rw [e]
    ·rw [e]
     exact if_neg (by omega)
   exact ⟨k2.trans k1.symm, fun n hn => by cases k1.symm.trans hn⟩
 ·rw [if_neg hp, if_neg hp]
  exact ⟨rfl, fun n hn => by cases hn⟩
theorem Loc.tail {E E' : Env} {s m : Nat} (hG : SameG E E') : ∀ (f f' i : Nat), Loc E E' s i m → m - i < f → m - i < f' → E'.tail f' (i + s) = E.tail f i + s ∧ i ≤ E.tail f i ∧ Loc E E' s (E.tail f i) m
 | 0, _, _, _, h, _ => by omega
 | _, 0, _, _, _, h => by omega
 | f + 1, f' + 1, i, h, hf, hf' => by
  simp only [Env.tail, hG.as_, h.sign (Nat.le_refl _) h.le_]
  by_cases hs : E.sign i E.as_ = true
  ·simp only [hs, if_true]
   obtain ⟨hlt, h1⟩ := h.sign_lt hs
   rw [show i + s + 1 = i + 1 + s by omega]
   obtain ⟨a, b, c⟩ := Loc.tail hG f f' (i + 1) h1 (by omega) (by omega)
   exact ⟨a, by omega, c⟩
  ·rw [if_neg hs, if_neg hs]
   obtain ⟨hp, hq⟩ := h.pow hG
   rw [hp]
   cases hw : E.pow i with
   | none => exact ⟨rfl, Nat.le_refl _, h⟩
   | some n =>
    obtain ⟨hlt, h2⟩ := hq n hw
    simp only
    rw [show i + s + 2 = i + 2 + s by omega]
    obtain ⟨a, b, c⟩ := Loc.tail hG f f' (i + 2) h2 (by omega) (by omega)
    exact ⟨a, by omega, c⟩
end Go.Proofs.Ytollglblkbjgjaa
namespace Go.Proofs.Ytollglblkbjgjaa
open Go.RowKit

theorem Loc.shut {E E' : Env} {s i m q : Nat} {u : Tok} {x : ByteArray} (hs : E.is i 5 x = true) (h : Loc E E' s i m) (h1 : Loc E E' s (i + 1) q) (hu : E.L[q]? = some u) (h6 : u.kind = 6) (hq : q < m) (hiq : i < q) : E.shut i = some q ∧ E'.shut (i + s) = some (q + s) := by
 obtain ⟨t, ht, h5⟩ := is_kind hs
 refine ⟨shut_bal ht h5 h1.bal hu h6, ?_⟩
 have hb := h1.bal.shift h1.same
 rw [show i + 1 + s = i + s + 1 by omega] at hb
 exact shut_bal ((h.same i (Nat.le_refl _) (by omega)).trans ht) h5 hb ((h.same q (by omega) hq).trans hu) h6
/-- what is claimed of a place behind a function -/
def SkipOK (E E' : Env) (s i m : Nat) (r r' : Option Nat) : Prop := r' = r.map (· + s) ∧ ∀ q, r = some q → i < q ∧ Loc E E' s q m
theorem SkipOK.none {E E' : Env} {s i m : Nat} : SkipOK E E' s i m none none := ⟨rfl, fun q h => by cases h⟩
theorem skip_grp {E E' : Env} {s : Nat} (hG : SameG E E') {sk sk' : Nat → Bool → Option Nat} {q M i0 : Nat} {u : Tok} (hM : Loc E E' s i0 M) (hi0 : i0 ≤ q) (hqM : q < M) (hu : E.L[q]? = some u) (b : Bool)
  (hsk : ∀ x, i0 < x → Loc E E' s x q → SkipOK E E' s x q (sk x b) (sk' (x + s) b)) : ∀ (g g' x n : Nat), i0 < x → Loc E E' s x q → q - x < g → q - x < g' →
  E'.grpG sk' g' (x + s) b n = (E.grpG sk g x b n).map (· + s) ∧ ∀ y, E.grpG sk g x b n = some y → y = q + 1
 | 0, _, _, _, _, _, h, _ => by omega
 | _, 0, _, _, _, _, _, h => by omega
 | g + 1, g' + 1, x, n, hx0, h, hg, hg' => by
  have hxq := h.le_
  unfold Env.grpG
  rw [hM.is_lt (by omega) (by omega), hG.trains]
  by_cases hc : E.is x 6 ⟨#[41]⟩ = true
  ·rw [if_pos hc, if_pos hc]
   have hxe : x = q := by
    rcases Nat.lt_or_ge x q with h1 | h1
    ·obtain ⟨t, ht, h6, _⟩ := h.head h1
     obtain ⟨t', ht', h6'⟩ := is_kind hc
     rw [ht] at ht'
     cases ht'
     exact absurd h6' h6
    ·omega
   subst hxe
   split
   ·exact ⟨by simp only [Option.map_some, Option.some.injEq]; omega, fun y hy => by cases hy; rfl⟩
   ·exact ⟨rfl, fun y hy => by cases hy⟩
  ·rw [if_neg hc, if_neg hc]
   obtain ⟨e, k⟩ := hsk x hx0 h
   rw [e]
   cases hs : sk x b with
   | none => exact ⟨rfl, fun y hy => by cases hy⟩
   | some j =>
    obtain ⟨hj, hl⟩ := k j hs
    have hjq := hl.le_
    simp only [Option.map_some]
    exact skip_grp hG hM hi0 hqM hu b hsk g g' j (n + 1) (by omega) hl (by omega) (by omega)
theorem head_loc0 {E E' : Env} {s : Nat} (hG : SameG E E') {p m : Nat} (hl : Loc E E' s p m) (c : Bool) (f f' : Nat) (hsk : ∀ x q, p < x → q < m → Loc E E' s x q → SkipOK E E' s x q (E.skipF f x c) (E'.skipF f' (x + s) c)) : SkipOK E E' s p m (E.headG (fun i b => E.grpG (E.skipF f) (E.L.length + 1) (i + 1) b 0) p c) (E'.headG (fun i b => E'.grpG (E'.skipF f') (E'.L.length + 1) (i + 1) b 0) (p + s) c) := by
 unfold Env.headG
 rw [hG.vs, hG.bs, hG.open_, hl.sign (Nat.le_refl _) hl.le_, hl.sign (Nat.le_refl _) hl.le_, hl.is (Nat.le_refl _) hl.le_ (by decide), hl.is (Nat.le_refl _) hl.le_ (by decide)]
 by_cases h1 : (E.sign p E.vs || (c && E.sign p E.bs)) = true
 ·rw [if_pos h1, if_pos h1]
  have h2 : Loc E E' s (p + 1) m := by
   rcases Bool.or_eq_true_iff.1 h1 with h2 | h2
   ·exact (hl.sign_lt h2).2
   ·exact (hl.sign_lt (Bool.and_eq_true_iff.1 h2).2).2
  exact ⟨by simp only [Option.map_some, Option.some.injEq]; omega, fun q hq => by cases hq; exact ⟨by omega, h2⟩⟩
 ·rw [if_neg h1, if_neg h1]
  by_cases h2 : E.is p 5 E.open_ = true
  ·rw [if_pos h2, if_pos h2]
   obtain ⟨q, u, g1, g2, g3, g4, g5, g6⟩ := hl.is5 h2
   obtain ⟨e1, e2⟩ := Loc.shut h2 hl g1 g2 g3 g6 g5
   rw [e1, e2]
   exact ⟨by simp only [Option.map_some, Option.some.injEq]; omega, fun y hy => by simp only [Option.map_some, Option.some.injEq] at hy; subst hy; exact ⟨by omega, g4⟩⟩
  ·rw [if_neg h2, if_neg h2]
   by_cases h3 : E.is p 5 ⟨#[40]⟩ = true
   ·rw [if_pos h3, if_pos h3]
    obtain ⟨q, u, g1, g2, g3, g4, g5, g6⟩ := hl.is5 h3
    have hqL := hl.le
    have hL := hl.le'
    have := skip_grp hG hl (by omega) g6 g2 c (sk := E.skipF f) (sk' := E'.skipF f') (fun x hx hx2 => hsk x q hx g6 hx2) (E.L.length + 1) (E'.L.length + 1) (p + 1) 0 (by omega) g1 (by omega) (by omega)
    dsimp only
    rw [show p + s + 1 = p + 1 + s by omega]
    exact ⟨this.1, fun y hy => by rw [this.2 y hy]; exact ⟨by omega, g4⟩⟩
   ·rw [if_neg h3, if_neg h3]
    exact SkipOK.none
theorem skip_loc {E E' : Env} {s : Nat} (hG : SameG E E') : ∀ (f f' i m : Nat) (b : Bool), Loc E E' s i m → m - i < f → m - i < f' → SkipOK E E' s i m (E.skipF f i b) (E'.skipF f' (i + s) b)
 | 0, _, _, _, _, _, h, _ => by omega
 | _, 0, _, _, _, _, _, h => by omega
 | f + 1, f' + 1, i, m, b, h, hf, hf' => by
  unfold Env.skipF
  rw [hG.outer, h.is (Nat.le_refl _) h.le_ (by decide)]
  -- the place behind the sign of an outer
  obtain ⟨p, hp⟩ : ∃ p, (if E.is i 4 E.outer then i + 1 else i) = p := ⟨_, rfl⟩
  have hp' : (if E.is i 4 E.outer then i + s + 1 else i + s) = p + s := by
   rw [← hp]
   split
   ·omega
   ·rfl
  have hip : i ≤ p ∧ Loc E E' s p m := by
   rw [← hp]
   split
   ·rename_i ho
    exact ⟨by omega, (h.is4_lt ho).2⟩
   ·exact ⟨Nat.le_refl _, h⟩
  rw [hp, hp']
  obtain ⟨c, hc⟩ : ∃ c, (b && !E.is i 4 E.outer) = c := ⟨_, rfl⟩
  rw [hc]
  clear hp hp' hc
  obtain ⟨hip, hl⟩ := hip
  have key := head_loc0 hG hl c f f' (fun x q hx hq hx2 => skip_loc hG f f' x q c hx2 (by have := hx2.le_; omega) (by have := hx2.le_; omega))
  obtain ⟨k1, k2⟩ := key
  rw [k1]
  cases hh : E.headG (fun i b => E.grpG (E.skipF f) (E.L.length + 1) (i + 1) b 0) p c with
  | none => exact SkipOK.none
  | some j =>
   obtain ⟨hj, hjl⟩ := k2 j hh
   have hL := h.le'
   have hmL := h.le
   obtain ⟨t1, t2, t3⟩ := Loc.tail hG (E.L.length + 1) (E'.L.length + 1) j hjl (by omega) (by omega)
   simp only [Option.map_some]
   exact ⟨by rw [t1]; rfl, fun q hq => by simp only [Option.some.injEq] at hq; subst hq; exact ⟨by omega, t3⟩⟩
theorem head_loc {E E' : Env} {s : Nat} (hG : SameG E E') {p m : Nat} (hl : Loc E E' s p m) (c : Bool) (f f' : Nat) (hf : m - p < f + 1) (hf' : m - p < f' + 1) : SkipOK E E' s p m (E.headG (fun i b => E.grpG (E.skipF f) (E.L.length + 1) (i + 1) b 0) p c) (E'.headG (fun i b => E'.grpG (E'.skipF f') (E'.L.length + 1) (i + 1) b 0) (p + s) c) :=
 head_loc0 hG hl c f f' (fun x q hx hq hx2 => skip_loc hG f f' x q c hx2 (by have := hx2.le_; omega) (by have := hx2.le_; omega))
end Go.Proofs.Ytollglblkbjgjaa
namespace Go.Proofs.Ytollglblkbjgjaa
open Go.RowKit

/-- the same part, s on; or brackets that lie too deep -/
def After (s : Nat) (k : Nd) (j : Nat) (r' : Res Nd) : Prop := (∃ i, r' = .bad 15 i) ∨ ∃ k', r' = .ok k' (j + s) ∧ k'.bare = k.bare
def AfterL (s : Nat) (ks : List Nd) (j : Nat) (r' : Res (List Nd)) : Prop := (∃ i, r' = .bad 15 i) ∨ ∃ ks', r' = .ok ks' (j + s) ∧ bares ks' = bares ks
theorem after_ok {s j n : Nat} {k k' : Nd} (h : n = j + s) (hb : k'.bare = k.bare) : After s k j (.ok k' n) := .inr ⟨k', by rw [h], hb⟩
theorem after_bind {s j J : Nat} {k K : Nd} {r' : Res Nd} {g : Nd → Nat → Res Nd} (h : After s k j r') (hg : ∀ k', k'.bare = k.bare → After s K J (g k' (j + s))) : After s K J (r'.bind g) := by
 rcases h with ⟨i, rfl⟩ | ⟨k', rfl, hb⟩
 ·exact .inl ⟨i, rfl⟩
 ·exact hg k' hb
theorem after_bindL {s j J : Nat} {ks : List Nd} {K : Nd} {r' : Res (List Nd)} {g : List Nd → Nat → Res Nd} (h : AfterL s ks j r') (hg : ∀ ks', bares ks' = bares ks → After s K J (g ks' (j + s))) : After s K J (r'.bind g) := by
 rcases h with ⟨i, rfl⟩ | ⟨ks', rfl, hb⟩
 ·exact .inl ⟨i, rfl⟩
 ·exact hg ks' hb
theorem bind_inv {α β : Type} {r : Res α} {f : α → Nat → Res β} {k : β} {j : Nat} (h : r.bind f = .ok k j) : ∃ x i, r = .ok x i ∧ f x i = .ok k j := by
 cases r with
 | ok x i => exact ⟨x, i, rfl, h⟩
 | bad er i => cases h
theorem uses_like {k k' : Nd} (h : k'.bare = k.bare) (q : Int) : k'.uses q = k.uses q := by rw [← uses_bare, h, uses_bare]
theorem bare_mk {k o : Int} {nm : ByteArray} {l : Lt} {ks ks' : List Nd} (a a' : Int) (h : bares ks' = bares ks) : (Nd.mk k o nm l ks' a').bare = (Nd.mk k o nm l ks a).bare := by simp only [Nd.bare, h]
theorem bares_one {x x' : Nd} (h : x'.bare = x.bare) : bares [x'] = bares [x] := by simp only [bares, h]
theorem bares_two {x x' y y' : Nd} (h : x'.bare = x.bare) (g : y'.bare = y.bare) : bares [x', y'] = bares [x, y] := by simp only [bares, h, g]
theorem bares_three {x x' y y' z z' : Nd} (h : x'.bare = x.bare) (g : y'.bare = y.bare) (e : z'.bare = z.bare) : bares [x', y', z'] = bares [x, y, z] := by simp only [bares, h, g, e]
section
variable {E E' : Env} {s : Nat}
def XC (E E' : Env) (s : Nat) (X X' : Nat → Bool → Res Nd) : Prop := ∀ i m inn, Loc E E' s i m → ∀ k j, X i inn = .ok k j → j = m ∧ After s k m (X' (i + s) inn)
def FC (E E' : Env) (s : Nat) (F F' : Nat → Bool → Bool → Res Nd) : Prop := ∀ i m b inn, Loc E E' s i m → ∀ fu q, m - i < fu → E.skipF fu i b = some q → ∀ k j, F i b inn = .ok k j → j = q ∧ After s k q (F' (i + s) b inn)
theorem lam_loc (hG : SameG E E') {X X' : Nat → Bool → Res Nd} (hX : XC E E' s X X') {i m : Nat} (h : Loc E E' s i m) (ho : E.is i 5 E.open_ = true) {k : Nd} {j : Nat} (hk : E.lamM X i = .ok k j) : ∃ q, E.shut i = some q ∧ j = q + 1 ∧ After s k j (E'.lamM X' (i + s)) := by
 obtain ⟨q, u, g1, g2, g3, g4, g5, g6⟩ := h.is5 ho
 obtain ⟨e1, _⟩ := Loc.shut ho h g1 g2 g3 g6 g5
 refine ⟨q, e1, ?_⟩
 unfold Env.lamM at hk ⊢
 obtain ⟨body, jj, hx, hk⟩ := bind_inv hk
 obtain ⟨hjj, ha⟩ := hX (i + 1) q true g1 body jj hx
 subst hjj
 rw [show i + s + 1 = i + 1 + s by omega]
 by_cases hc : E.is jj 6 E.close = true
 ·rw [if_pos hc] at hk
  have hc' : E'.is (jj + s) 6 E'.close = true := by rw [hG.close, h.is_lt (by omega) g6]; exact hc
  by_cases c1 : (body.uses 3 && body.uses 4) = true
  ·rw [if_pos c1] at hk
   cases hk
   refine ⟨rfl, after_bind ha fun body' hb => ?_⟩
   rw [if_pos hc', uses_like hb, uses_like hb, if_pos c1]
   exact after_ok (by omega) (bare_mk _ _ (bares_one hb))
  ·rw [if_neg c1] at hk
   by_cases c2 : ((E.lone && body.uses 4) || (!E.lone && body.uses 3)) = true
   ·rw [if_pos c2] at hk
    cases hk
   ·rw [if_neg c2] at hk
    cases hk
    refine ⟨rfl, after_bind ha fun body' hb => ?_⟩
    rw [if_pos hc', uses_like hb, uses_like hb, if_neg c1, hG.lone, if_neg c2]
    exact after_ok (by omega) (bare_mk _ _ (bares_one (by rw [← righted_bare, hb, righted_bare])))
 ·rw [if_neg hc] at hk
  cases hk
theorem idx_loc (hG : SameG E E') {X X' : Nat → Bool → Res Nd} (hX : XC E E' s X X') (inn : Bool) (a a' : Int) {m : Nat} : ∀ (g g' p : Nat) (kd kd' : Nd), Loc E E' s p m → kd'.bare = kd.bare → m - p < g → m - p < g' → ∀ k j, E.idxM (fun x => X x inn) a g p kd = .ok k j → p ≤ j ∧ Loc E E' s j m ∧ After s k j (E'.idxM (fun x => X' x inn) a' g' (p + s) kd')
 | 0, _, _, _, _, _, _, h, _ => by omega
 | _, 0, _, _, _, _, _, _, h => by omega
 | g + 1, g' + 1, p, kd, kd', h, hb, hg, hg' => by
  intro k j hk
  unfold Env.idxM at hk ⊢
  rw [hG.square, h.is (Nat.le_refl _) h.le_ (by decide)]
  by_cases c : (E.square && E.is p 5 ⟨#[91]⟩) = true
  ·rw [if_pos c] at hk ⊢
   obtain ⟨q, u, g1, g2, g3, g4, g5, g6⟩ := h.is5 (Bool.and_eq_true_iff.1 c).2
   obtain ⟨x, jj, hx, hk⟩ := bind_inv hk
   obtain ⟨hjj, ha⟩ := hX (p + 1) q inn g1 x jj hx
   subst hjj
   rw [show p + s + 1 = p + 1 + s by omega]
   by_cases c2 : E.is jj 6 ⟨#[93]⟩ = true
   ·rw [if_pos c2] at hk
    have key := fun (x' : Nd) (hx' : x'.bare = x.bare) => idx_loc hG hX inn a a' g g' (jj + 1) (.mk 8 0 ⟨#[]⟩ Lt.zero [kd, x] a) (.mk 8 0 ⟨#[]⟩ Lt.zero [kd', x'] a') g4 (bare_mk _ _ (bares_two hb hx')) (by omega) (by omega) k j hk
    refine ⟨by have := (key x rfl).1; omega, (key x rfl).2.1, after_bind ha fun x' hx' => ?_⟩
    rw [h.is_lt (by omega) g6, if_pos c2, show jj + s + 1 = jj + 1 + s by omega]
    exact (key x' hx').2.2
   ·rw [if_neg c2] at hk
    cases hk
  ·rw [if_neg c] at hk ⊢
   cases hk
   exact ⟨Nat.le_refl _, h, after_ok rfl hb⟩
theorem op1_loc (hG : SameG E E') {X X' : Nat → Bool → Res Nd} (hX : XC E E' s X X') (inn : Bool) {i m : Nat} (h : Loc E E' s i m) {t : Tok} (ht : E.L[i]? = some t) (hlt : i < m) {k : Nd} {j : Nat} (hk : E.op1M (fun x => X x inn) i inn t = .ok k j) : i < j ∧ Loc E E' s j m ∧ After s k j (E'.op1M (fun x => X' x inn) (i + s) inn t) := by
 unfold Env.op1M at hk ⊢
 have e1 : i + s + 1 = i + 1 + s := by omega
 by_cases c1 : t.kind = 1 ∨ t.kind = 2
 ·rw [if_pos c1] at hk ⊢
  cases hk
  exact ⟨by omega, h.step ht hlt (by omega), after_ok e1 rfl⟩
 ·rw [if_neg c1] at hk ⊢
  by_cases c2 : t.kind = 3
  ·have hst := h.step ht hlt (by omega)
   rw [if_pos c2] at hk ⊢
   rw [hG.left, hG.right]
   by_cases c3 : (inn && t.text.toList == E.left.toList) = true
   ·rw [if_pos c3] at hk ⊢
    cases hk
    exact ⟨by omega, hst, after_ok e1 rfl⟩
   ·rw [if_neg c3] at hk ⊢
    by_cases c4 : (inn && t.text.toList == E.right.toList) = true
    ·rw [if_pos c4] at hk ⊢
     cases hk
     exact ⟨by omega, hst, after_ok e1 rfl⟩
    ·rw [if_neg c4] at hk ⊢
     by_cases c5 : nameOK t.text = true
     ·rw [if_pos c5] at hk ⊢
      cases hk
      exact ⟨by omega, hst, after_ok e1 rfl⟩
     ·rw [if_neg c5] at hk
      cases hk
  ·rw [if_neg c2] at hk ⊢
   rw [h.is (Nat.le_refl _) h.le_ (by decide)]
   by_cases c3 : E.is i 5 ⟨#[40]⟩ = true
   ·rw [if_pos c3] at hk ⊢
    obtain ⟨q, u, g1, g2, g3, g4, g5, g6⟩ := h.is5 c3
    obtain ⟨x, jj, hx, hk⟩ := bind_inv hk
    obtain ⟨hjj, ha⟩ := hX (i + 1) q inn g1 x jj hx
    subst hjj
    by_cases c4 : E.is jj 6 ⟨#[41]⟩ = true
    ·rw [if_pos c4] at hk
     cases hk
     refine ⟨by omega, g4, ?_⟩
     rw [e1]
     refine after_bind ha fun x' hx' => ?_
     rw [h.is_lt (by omega) g6, if_pos c4]
     exact after_ok (by omega) hx'
    ·rw [if_neg c4] at hk
     cases hk
   ·rw [if_neg c3] at hk
    cases hk
theorem op_loc (hG : SameG E E') {X X' : Nat → Bool → Res Nd} (hX : XC E E' s X X') (inn : Bool) {i m : Nat} (h : Loc E E' s i m) {k : Nd} {j : Nat} (hk : E.opM (fun x => X x inn) i inn = .ok k j) : i < j ∧ Loc E E' s j m ∧ After s k j (E'.opM (fun x => X' x inn) (i + s) inn) := by
 have hlt : i < m := by
  rcases Nat.lt_or_ge i m with h1 | h1
  ·exact h1
  ·exfalso
   obtain rfl : i = m := by have := h.le_; omega
   unfold Env.opM at hk
   have hst := h.stop
   unfold Env.ends at hst
   cases ht : E.L[i]? with
   | none => rw [ht] at hk; cases hk
   | some t =>
    rw [ht] at hk hst
    have h6 : t.kind = 6 := by simpa using hst
    obtain ⟨x, jj, hx, _⟩ := bind_inv hk
    unfold Env.op1M at hx
    rw [if_neg (by omega), if_neg (by omega), ends_is h.stop (by decide)] at hx
    simp only [Bool.false_eq_true, if_false] at hx
    cases hx
 obtain ⟨t, ht, _⟩ := h.head hlt
 unfold Env.opM at hk ⊢
 rw [h.same i (Nat.le_refl _) hlt, ht]
 rw [ht] at hk
 obtain ⟨x, jj, hx, hk⟩ := bind_inv hk
 obtain ⟨h1, h2, h3⟩ := op1_loc hG hX inn h ht hlt hx
 have hL := h.le
 have hL' := h.le'
 have key := fun (x' : Nd) (hx' : x'.bare = x.bare) => idx_loc hG hX inn t.at_ t.at_ (E.L.length + 1) (E'.L.length + 1) jj x x' h2 hx' (by omega) (by omega) k j hk
 exact ⟨by have := (key x rfl).1; omega, (key x rfl).2.1, after_bind h3 fun x' hx' => (key x' hx').2.2⟩
theorem tailM_loc (hG : SameG E E') (a a' : Int) {m : Nat} : ∀ (g g' p : Nat) (kd kd' : Nd), Loc E E' s p m → kd'.bare = kd.bare → m - p < g → m - p < g' → ∀ k j, E.tailM a g p kd = .ok k j → j = E.tail g p ∧ After s k j (E'.tailM a' g' (p + s) kd')
 | 0, _, _, _, _, _, _, h, _ => by omega
 | _, 0, _, _, _, _, _, _, h => by omega
 | g + 1, g' + 1, p, kd, kd', h, hb, hg, hg' => by
  intro k j hk
  unfold Env.tailM at hk ⊢
  simp only [Env.tail]
  rw [hG.as_, h.sign (Nat.le_refl _) h.le_]
  by_cases c : E.sign p E.as_ = true
  ·rw [if_pos c] at hk ⊢
   obtain ⟨hlt, hl⟩ := h.sign_lt c
   rw [if_pos c, show p + s + 1 = p + 1 + s by omega]
   refine tailM_loc hG a a' g g' (p + 1) _ _ hl ?_ (by omega) (by omega) k j hk
   have ht : E'.text (p + s) = E.text p := by unfold Env.text; rw [h.same p (Nat.le_refl _) hlt]
   rw [ht]
   exact bare_mk _ _ (bares_one hb)
  ·rw [if_neg c] at hk ⊢
   rw [if_neg c]
   obtain ⟨hp, hq⟩ := h.pow hG
   rw [hp]
   cases hw : E.pow p with
   | none =>
    rw [hw] at hk
    cases hk
    exact ⟨rfl, after_ok rfl hb⟩
   | some n =>
    rw [hw] at hk
    obtain ⟨hlt, hl⟩ := hq n hw
    simp only at hk ⊢
    rw [show p + s + 2 = p + 2 + s by omega]
    exact tailM_loc hG a a' g g' (p + 2) _ _ hl (bare_mk _ _ (bares_one hb)) (by omega) (by omega) k j hk
end
end Go.Proofs.Ytollglblkbjgjaa
namespace Go.Proofs.Ytollglblkbjgjaa
open Go.RowKit

section
variable {E E' : Env} {s : Nat}
/-- functions in a group -/
theorem grp_loc (hG : SameG E E') {F F' : Nat → Bool → Bool → Res Nd} (hF : FC E E' s F F') {f : Nat} {i0 q M : Nat} (hM : Loc E E' s i0 M) (hi0 : i0 ≤ q) (hqM : q < M) (b inn : Bool) (hfq : q - i0 < f + 1) : ∀ (g gm gm' x n y : Nat) (acc acc' : List Nd), i0 < x → Loc E E' s x q → q - x < g → q - x < gm → q - x < gm' → E.grpG (E.skipF f) g x b n = some y → bares acc' = bares acc → ∀ ks j, E.grpM (fun k => F k b inn) gm x acc = .ok ks j → j = y ∧ AfterL s ks j (E'.grpM (fun k => F' k b inn) gm' (x + s) acc')
 | 0, _, _, _, _, _, _, _, _, _, h, _, _ => by omega
 | _, 0, _, _, _, _, _, _, _, _, _, h, _ => by omega
 | _, _, 0, _, _, _, _, _, _, _, _, _, h => by omega
 | g + 1, gm + 1, gm' + 1, x, n, y, acc, acc', hx0, h, hg, hgm, hgm' => by
  intro hy hacc ks j hk
  have hxq := h.le_
  unfold Env.grpG at hy
  unfold Env.grpM at hk ⊢
  rw [hM.is_lt (by omega) (by omega)]
  by_cases hc : E.is x 6 ⟨#[41]⟩ = true
  ·rw [if_pos hc] at hy hk ⊢
   cases hk
   split at hy
   ·cases hy
    exact ⟨rfl, .inr ⟨acc', by rw [show x + s + 1 = x + 1 + s by omega], hacc⟩⟩
   ·cases hy
  ·rw [if_neg hc] at hy hk ⊢
   cases hs : E.skipF f x b with
   | none => rw [hs] at hy; cases hy
   | some jj =>
    rw [hs] at hy
    simp only at hy
    obtain ⟨k1, j1, hx1, hk⟩ := bind_inv hk
    obtain ⟨e1, e2⟩ := hF x q b inn h f jj (by omega) hs k1 j1 hx1
    subst e1
    obtain ⟨_, hsk⟩ := skip_loc hG f f x q b h (by omega) (by omega)
    obtain ⟨hlt, hl⟩ := hsk j1 hs
    have hjq := hl.le_
    have key := fun (k1' : Nd) (hk1 : k1'.bare = k1.bare) => grp_loc hG hF hM hi0 hqM b inn hfq g gm gm' j1 (n + 1) y (acc ++ [k1]) (acc' ++ [k1']) (by omega) hl (by omega) (by omega) (by omega) hy (by rw [bares_append, bares_append, hacc, bares_one hk1]) ks j hk
    refine ⟨(key k1 rfl).1, ?_⟩
    rcases e2 with ⟨ix, e2⟩ | ⟨k1', e2, hb⟩
    ·rw [e2]
     exact .inl ⟨ix, rfl⟩
    ·rw [e2, Res.bind_ok]
     exact (key k1' hb).2
theorem bares_nd {ks ks' : List Nd} (h : bares ks' = bares ks) (a a' : Int) : (grpNd a' ks').bare = (grpNd a ks).bare := by
 have hl := bares_len h
 match ks, ks', h, hl with
 | [], [], _, _ => rfl
 | [x], [x'], h, _ => simp only [bares, List.cons.injEq, and_true] at h; exact h
 | x :: y :: ks, x' :: y' :: ks', h, hl =>
  show (Nd.mk (if (x' :: y' :: ks').length = 2 then 28 else 27) 0 ⟨#[]⟩ Lt.zero (x' :: y' :: ks') a').bare = (Nd.mk (if (x :: y :: ks).length = 2 then 28 else 27) 0 ⟨#[]⟩ Lt.zero (x :: y :: ks) a).bare
  rw [hl]
  exact bare_mk _ _ h
/-- a function without what stands behind it -/
theorem base_loc (hG : SameG E E') {X X' : Nat → Bool → Res Nd} {F F' : Nat → Bool → Bool → Res Nd} (hX : XC E E' s X X') (hF : FC E E' s F F') {i m : Nat} (h : Loc E E' s i m) (b inn : Bool) {f y : Nat} (hf : m - i < f + 1) (hy : E.headG (fun i b => E.grpG (E.skipF f) (E.L.length + 1) (i + 1) b 0) i b = some y) {k : Nd} {j : Nat} (hk : E.baseM X (fun k c => F k c inn) i b = .ok k j) : j = y ∧ After s k j (E'.baseM X' (fun k c => F' k c inn) (i + s) b) := by
 unfold Env.headG at hy
 unfold Env.baseM at hk ⊢
 rw [hG.open_, h.is (Nat.le_refl _) h.le_ (by decide), h.is (Nat.le_refl _) h.le_ (by decide)]
 by_cases h1 : (E.sign i E.vs || (b && E.sign i E.bs)) = true
 ·rw [if_pos h1] at hy
  cases hy
  have h2 : ∃ t, E.L[i]? = some t ∧ t.kind = 4 := by
   rcases Bool.or_eq_true_iff.1 h1 with h2 | h2
   ·exact sign_kind h2
   ·exact sign_kind (Bool.and_eq_true_iff.1 h2).2
  have hlt : i < m := by
   rcases Bool.or_eq_true_iff.1 h1 with h2 | h2
   ·exact (h.sign_lt h2).1
   ·exact (h.sign_lt (Bool.and_eq_true_iff.1 h2).2).1
  obtain ⟨t, ht, h4⟩ := h2
  have hno : ∀ x, E.is i 5 x = false := by
   intro x
   cases hb : E.is i 5 x with
   | false => rfl
   | true =>
    obtain ⟨t', ht', h5⟩ := is_kind hb
    rw [ht] at ht'
    cases ht'
    omega
  rw [hno, hno] at hk ⊢
  simp only [Bool.false_eq_true, if_false] at hk ⊢
  cases hk
  have et : E'.text (i + s) = E.text i := by unfold Env.text; rw [h.same i (Nat.le_refl _) hlt]
  rw [et]
  exact ⟨rfl, after_ok (by omega) (bare_mk _ _ rfl)⟩
 ·rw [if_neg h1] at hy
  by_cases h2 : E.is i 5 E.open_ = true
  ·rw [if_pos h2] at hy hk ⊢
   obtain ⟨q, e1, e2, e3⟩ := lam_loc hG hX h h2 hk
   rw [e1] at hy
   cases hy
   exact ⟨e2, e3⟩
  ·rw [if_neg h2] at hy hk ⊢
   by_cases h3 : E.is i 5 ⟨#[40]⟩ = true
   ·rw [if_pos h3] at hy hk ⊢
    obtain ⟨q, u, g1, g2, g3, g4, g5, g6⟩ := h.is5 h3
    obtain ⟨ks, jj, hks, hk⟩ := bind_inv hk
    cases hk
    have hL := h.le
    have hL' := h.le'
    obtain ⟨e1, e2⟩ := grp_loc hG hF h (by omega) g6 b inn (by omega) (E.L.length + 1) (E.L.length + 1) (E'.L.length + 1) (i + 1) 0 y [] [] (by omega) g1 (by omega) (by omega) (by omega) hy rfl ks j hks
    refine ⟨e1, ?_⟩
    rw [show i + s + 1 = i + 1 + s by omega]
    exact after_bindL e2 fun ks' hb => after_ok rfl (bares_nd hb _ _)
   ·rw [if_neg h3] at hy
    cases hy
theorem fun_loc (hG : SameG E E') {X X' : Nat → Bool → Res Nd} {F F' : Nat → Bool → Bool → Res Nd} (hX : XC E E' s X X') (hF : FC E E' s F F') {i m : Nat} (h : Loc E E' s i m) (b inn : Bool) {fu q : Nat} (hfu : m - i < fu) (hq : E.skipF fu i b = some q) {k : Nd} {j : Nat} (hk : E.funM X (fun k c => F k c inn) i b = .ok k j) : j = q ∧ After s k q (E'.funM X' (fun k c => F' k c inn) (i + s) b) := by
 obtain ⟨f, rfl⟩ : ∃ f, fu = f + 1 := ⟨fu - 1, by omega⟩
 unfold Env.skipF at hq
 unfold Env.funM at hk ⊢
 rw [hG.outer, h.is (Nat.le_refl _) h.le_ (by decide)]
 obtain ⟨p, hp⟩ : ∃ p, (if E.is i 4 E.outer = true then i + 1 else i) = p := ⟨_, rfl⟩
 have hp' : (if E.is i 4 E.outer = true then i + s + 1 else i + s) = p + s := by
  rw [← hp]
  split
  ·omega
  ·rfl
 have hip : i ≤ p ∧ Loc E E' s p m := by
  rw [← hp]
  split
  ·rename_i ho
   exact ⟨by omega, (h.is4_lt ho).2⟩
  ·exact ⟨Nat.le_refl _, h⟩
 rw [hp] at hq hk
 rw [hp']
 obtain ⟨hip, hl⟩ := hip
 obtain ⟨y, hy, hty⟩ := Option.map_eq_some_iff.1 hq
 obtain ⟨kd, jj, hb, hk⟩ := bind_inv hk
 obtain ⟨e1, e2⟩ := base_loc hG hX hF hl _ inn (by omega) hy hb
 subst e1
 -- where the base ends there are words still
 have hsk := skip_loc hG (f + 1) (f + 1) i m b h hfu hfu
 have hjl : Loc E E' s jj m := by
  have hh : SkipOK E E' s p m (E.headG (fun i b => E.grpG (E.skipF f) (E.L.length + 1) (i + 1) b 0) p (b && !E.is i 4 E.outer)) (E'.headG (fun i b => E'.grpG (E'.skipF f) (E'.L.length + 1) (i + 1) b 0) (p + s) (b && !E.is i 4 E.outer)) := head_loc hG hl _ f f (by omega) (by omega)
  exact (hh.2 jj hy).2
 have hL := h.le
 have hL' := h.le'
 have key := fun (a a' : Int) (kd1 kd' : Nd) (hb' : kd'.bare = kd1.bare) (hk1 : E.tailM a (E.L.length + 1) jj kd1 = .ok k j) => tailM_loc hG a a' (E.L.length + 1) (E'.L.length + 1) jj kd1 kd' hjl hb' (by omega) (by omega) k j hk1
 have hj : j = q := by rw [(key _ 0 _ _ rfl hk).1, hty]
 refine ⟨hj, ?_⟩
 rw [← hj]
 refine after_bind e2 fun kd' hb' => ?_
 refine (key _ _ _ _ ?_ hk).2
 split
 ·exact bare_mk _ _ (bares_one hb')
 ·exact hb'
theorem lone_like {f f' a a' : Nd} (hG : SameG E E') (hf : f'.bare = f.bare) (ha : a'.bare = a.bare) : E'.lone1 f' a' = E.lone1 f a := by
 obtain ⟨k1, k2, k3, k4, k5⟩ := bare_eq hf
 obtain ⟨a1, _⟩ := bare_eq ha
 unfold Env.lone1
 rw [hG.lone, ← k1, ← k3, ← a1]
 have : (f'.kids.head?.map Nd.kind) = (f.kids.head?.map Nd.kind) := by
  have h5 := congrArg (fun l => (l.head?.map Nd.kind)) k5
  rw [bares_map, bares_map] at h5
  simp only [List.head?_map, Option.map_map] at h5
  have hc : Nd.kind ∘ Nd.bare = Nd.kind := funext kind_bare
  rw [hc] at h5
  exact h5.symm
 rw [this]
theorem ex_loc (hG : SameG E E') {X X' : Nat → Bool → Res Nd} {F F' : Nat → Bool → Bool → Res Nd} (hX : XC E E' s X X') (hF : FC E E' s F F') : XC E E' s (fun i inn => E.exM X F i inn) (fun i inn => E'.exM X' F' i inn) := by
 intro i m inn h k j hk
 have hL := h.le
 have hL' := h.le'
 simp only at hk ⊢
 unfold Env.exM at hk ⊢
 obtain ⟨e1, e2⟩ := skip_loc hG (E.L.length + 1) (E'.L.length + 1) i m false h (by omega) (by omega)
 rw [e1]
 cases hs : E.skipF (E.L.length + 1) i false with
 | some q0 =>
  rw [hs] at hk
  simp only [Option.map_some] at hk ⊢
  obtain ⟨fn, j1, hf, hk⟩ := bind_inv hk
  obtain ⟨x, j2, hx, hk⟩ := bind_inv hk
  cases hk
  obtain ⟨f1, f2⟩ := hF i m false inn h (E.L.length + 1) q0 (by omega) hs fn j1 hf
  subst f1
  obtain ⟨x1, x2⟩ := hX j1 m inn (e2 j1 hs).2 x j hx
  subst x1
  exact ⟨rfl, after_bind f2 fun fn' hfn => after_bind x2 fun x' hx' => after_ok rfl (bare_mk _ _ (bares_two hfn hx'))⟩
 | none =>
  rw [hs] at hk
  simp only [Option.map_none] at hk ⊢
  obtain ⟨a, j1, ha, hk⟩ := bind_inv hk
  obtain ⟨o1, o2, o3⟩ := op_loc hG hX inn h ha
  have hends := h.ends (p := j1) (by omega) o2.le_
  by_cases c : E.ends j1 = true
  ·rw [if_pos c] at hk
   cases hk
   have hjm : j = m := by
    rcases Nat.lt_or_ge j m with h1 | h1
    ·rw [o2.not_end h1] at c
     cases c
    ·have := o2.le_; omega
   subst hjm
   refine ⟨rfl, after_bind o3 fun a' ha' => ?_⟩
   rw [if_pos (hends.trans c)]
   exact after_ok rfl ha'
  ·rw [if_neg c] at hk
   obtain ⟨s1, s2⟩ := skip_loc hG (E.L.length + 1) (E'.L.length + 1) j1 m true o2 (by omega) (by omega)
   cases hs2 : E.skipF (E.L.length + 1) j1 true with
   | none => rw [hs2] at hk; cases hk
   | some q1 =>
    rw [hs2] at hk
    simp only at hk
    obtain ⟨fn, j2, hf, hk⟩ := bind_inv hk
    obtain ⟨f1, f2⟩ := hF j1 m true inn o2 (E.L.length + 1) q1 (by omega) hs2 fn j2 hf
    subst f1
    by_cases cl : E.lone1 fn a = true
    ·rw [if_pos cl] at hk
     cases ht : timesOf a.lit a.lit.c0 a.lit.n0 with
     | none => rw [ht] at hk; cases hk
     | some n =>
      rw [ht] at hk
      simp only at hk
      obtain ⟨x, j3, hx, hk⟩ := bind_inv hk
      cases hk
      obtain ⟨x1, x2⟩ := hX j2 m inn (s2 j2 hs2).2 x j hx
      subst x1
      refine ⟨rfl, after_bind o3 fun a' ha' => ?_⟩
      rw [if_neg (by rw [hends]; exact c), s1, hs2]
      simp only [Option.map_some]
      refine after_bind f2 fun fn' hfn => ?_
      have hal : a'.lit = a.lit := by rw [← lit_bare, ha', lit_bare]
      rw [if_pos ((lone_like hG hfn ha').trans cl), hal, ht]
      simp only
      refine after_bind x2 fun x' hx' => after_ok rfl (bare_mk _ _ (bares_two (bare_mk _ _ ?_) hx'))
      obtain ⟨_, _, _, _, k5⟩ := bare_eq hfn
      exact k5.symm
    ·rw [if_neg cl] at hk
     obtain ⟨x, j3, hx, hk⟩ := bind_inv hk
     cases hk
     obtain ⟨x1, x2⟩ := hX j2 m inn (s2 j2 hs2).2 x j hx
     subst x1
     refine ⟨rfl, after_bind o3 fun a' ha' => ?_⟩
     rw [if_neg (by rw [hends]; exact c), s1, hs2]
     simp only [Option.map_some]
     refine after_bind f2 fun fn' hfn => ?_
     rw [if_neg (by rw [lone_like hG hfn ha']; exact cl)]
     exact after_bind x2 fun x' hx' => after_ok rfl (bare_mk _ _ (bares_three hfn ha' hx'))
theorem go_loc (hG : SameG E E') : ∀ f f' : Nat, f' ≤ f → XC E E' s (E.go f).1 (E'.go f').1 ∧ FC E E' s (E.go f).2 (E'.go f').2
 | 0, _, _ => ⟨(fun _ _ _ _ _ _ h => by cases h), (fun _ _ _ _ _ _ _ _ _ _ _ h => by cases h)⟩
 | f + 1, f', hff => by
  cases f' with
  | zero =>
   have ih := go_loc hG f 0 (by omega)
   refine ⟨fun i m inn h k j hk => ?_, fun i m b inn h fu q hfu hq k j hk => ?_⟩
   ·exact ⟨(ex_loc hG ih.1 ih.2 i m inn h k j hk).1, .inl ⟨_, rfl⟩⟩
   ·exact ⟨(fun_loc hG ih.1 ih.2 h b inn hfu hq hk).1, .inl ⟨_, rfl⟩⟩
  | succ f' =>
   have ih := go_loc hG f f' (by omega)
   exact ⟨ex_loc hG ih.1 ih.2, fun i m b inn h fu q hfu hq k j hk => fun_loc hG ih.1 ih.2 h b inn hfu hq hk⟩
end
end Go.Proofs.Ytollglblkbjgjaa
namespace Go.Proofs.Ytollglblkbjgjaa
open Go.RowKit

section
variable {E E' : Env} {s : Nat}
theorem x_lt (hG : SameG E E') (f : Nat) {i m : Nat} (h : Loc E E' s i m) (inn : Bool) {k : Nd} {j : Nat} (hk : (E.go f).1 i inn = .ok k j) : i < m := by
 cases f with
 | zero => simp only [Env.go] at hk; cases hk
 | succ f =>
  have ih := go_loc (s := s) hG f 0 (by omega)
  have hL := h.le
  have hL' := h.le'
  have hk : E.exM (E.go f).1 (E.go f).2 i inn = .ok k j := hk
  unfold Env.exM at hk
  obtain ⟨e1, e2⟩ := skip_loc hG (E.L.length + 1) (E'.L.length + 1) i m false h (by omega) (by omega)
  cases hs : E.skipF (E.L.length + 1) i false with
  | some q =>
   obtain ⟨h1, h2⟩ := e2 q hs
   have := h2.le_
   omega
  | none =>
   rw [hs] at hk
   simp only at hk
   obtain ⟨a, j1, ha, _⟩ := bind_inv hk
   obtain ⟨o1, o2, _⟩ := op_loc hG ih.1 inn h ha
   have := o2.le_
   omega
/-- what is a program is no row of functions -/
theorem no_group (hG : SameG E E') {f' m : Nat} (inn : Bool) (hf' : m < f') : ∀ (g f x n y : Nat), Loc E E' s x m → E'.grpG (E'.skipF f') g (x + s) false n = some y → ∀ k j, (E.go f).1 x inn ≠ .ok k j
 | 0, _, _, _, _, _, h => by cases h
 | g + 1, f, x, n, y, h, hy => by
  intro k j hk
  have hlt := x_lt hG f h inn hk
  have hL := h.le
  have hL' := h.le'
  unfold Env.grpG at hy
  obtain ⟨t, ht, h6, _⟩ := h.head hlt
  have hc : E'.is (x + s) 6 ⟨#[41]⟩ = false := by
   rw [h.is_lt (Nat.le_refl _) hlt]
   cases hb : E.is x 6 ⟨#[41]⟩ with
   | false => rfl
   | true =>
    obtain ⟨t', ht', h6'⟩ := is_kind hb
    rw [ht] at ht'
    cases ht'
    exact absurd h6' h6
  rw [hc] at hy
  simp only [Bool.false_eq_true, if_false] at hy
  obtain ⟨e1, e2⟩ := skip_loc hG (E.L.length + 1) f' x m false h (by omega) (by omega)
  rw [e1] at hy
  cases hs : E.skipF (E.L.length + 1) x false with
  | none => rw [hs] at hy; cases hy
  | some q =>
   rw [hs] at hy
   simp only [Option.map_some] at hy
   obtain ⟨h1, h2⟩ := e2 q hs
   cases f with
   | zero => simp only [Env.go] at hk; cases hk
   | succ f =>
    have ih := go_loc (s := s) hG f 0 (by omega)
    have hk : E.exM (E.go f).1 (E.go f).2 x inn = .ok k j := hk
    unfold Env.exM at hk
    rw [hs] at hk
    simp only at hk
    obtain ⟨fn, j1, hf, hk⟩ := bind_inv hk
    obtain ⟨z, j2, hz, _⟩ := bind_inv hk
    obtain ⟨f1, _⟩ := ih.2 x m false inn h (E.L.length + 1) q (by omega) hs fn j1 hf
    subst f1
    exact no_group hG inn hf' g f j1 (n + 1) y h2 hy z j2 hz
end
theorem parse_ok {E : Env} {k : Nd} {j : Nat} (h : E.parseM = .ok k j) : E.X 0 0 false = .ok k j ∧ E.L.length ≤ j := by
 unfold Env.parseM at h
 obtain ⟨x, i, hx, h⟩ := bind_inv h
 by_cases c : i < E.L.length
 ·rw [if_pos c] at h; cases h
 ·rw [if_neg c] at h
  cases h
  exact ⟨hx, by omega⟩
theorem X_one (E : Env) : E.X 0 = fun i inn => E.exM (E.X 1) (E.F 1) i inn := by
 funext i inn
 exact E.X_step (by decide) i inn
/-- in brackets -/
theorem brack_parse {E E' : Env} (hG : SameG E E') {o c : Tok} (hL : E'.L = o :: (E.L ++ [c])) (ho : o.kind = 5) (ho' : o.text = ⟨#[40]⟩) (hc : c.kind = 6) (hc' : c.text = ⟨#[41]⟩) (hop : (o.text.toList == E.open_.toList) = false) (hb : Bal E.L 0 E.L.length) {k : Nd} {j : Nat} (hk : E.parseM = .ok k j) : (∃ i, E'.parseM = .bad 15 i) ∨ ∃ k' j', E'.parseM = .ok k' j' ∧ k'.bare = k.bare := by
 obtain ⟨hx, hj⟩ := parse_ok hk
 have hlen : E'.L.length = E.L.length + 2 := by rw [hL]; simp
 have h0 : E'.L[0]? = some o := by rw [hL]; rfl
 have hn : E'.L[E.L.length + 1]? = some c := by rw [hL]; simp
 have hn2 : E'.L[E.L.length + 2]? = none := List.getElem?_eq_none (by omega)
 have hloc : Loc E E' 1 0 E.L.length := by
  refine ⟨hb, fun p _ hp => ?_, ?_, ?_, Nat.le_refl _, by omega⟩
  ·rw [hL, List.getElem?_cons_succ, List.getElem?_append_left hp]
  ·unfold Env.ends
   rw [List.getElem?_eq_none (Nat.le_refl _)]
  ·unfold Env.ends
   rw [hn]
   simpa using hc
 have hgo := go_loc (s := 1) hG (24 - 0 : Int).toNat (24 - 1 : Int).toNat (by decide)
 obtain ⟨_, hA⟩ := hgo.1 0 E.L.length false hloc k j hx
 have hA : After 1 k E.L.length (E'.X 1 1 false) := hA
 have is0 : ∀ q x, q ≠ 5 → E'.is 0 q x = false := by
  intro q x hq
  rw [Env.is_some h0]
  have : (o.kind == q) = false := beq_eq_false_iff_ne.2 (by omega)
  rw [this]
  rfl
 have isp : E'.is 0 5 ⟨#[40]⟩ = true := by
  rw [Env.is_some h0, ho, ho']
  kernel_rfl
 have iso : E'.is 0 5 E'.open_ = false := by
  rw [Env.is_some h0, hG.open_, hop]
  simp
 have sg0 : ∀ l, E'.sign 0 l = false := by
  intro l
  rw [Env.sign_some h0]
  have : (o.kind == 4) = false := beq_eq_false_iff_ne.2 (by omega)
  rw [this]
  rfl
 have hskip : E'.skipF (E'.L.length + 1) 0 false = none := by
  cases hs : E'.skipF (E'.L.length + 1) 0 false with
  | none => rfl
  | some q =>
   exfalso
   unfold Env.skipF at hs
   rw [is0 4 _ (by decide)] at hs
   obtain ⟨y, hy, _⟩ := Option.map_eq_some_iff.1 hs
   unfold Env.headG at hy
   simp only [Bool.false_eq_true, if_false, sg0, Bool.not_false, Bool.and_true, Bool.false_and, Bool.or_false, iso, isp, if_true] at hy
   exact no_group hG false (f' := E'.L.length) (by omega) (E'.L.length + 1) (24 - 0 : Int).toNat 0 0 y hloc hy k j hx
 have hX : E'.X 0 0 false = (E'.X 1 1 false).bind fun x q => if E'.is q 6 ⟨#[41]⟩ = true then E'.idxM (fun k => E'.X 1 k false) o.at_ (E'.L.length + 1) (q + 1) x |>.bind fun a j => (if E'.ends j = true then .ok a j else match E'.skipF (E'.L.length + 1) j true with
   | none => .bad 2 j
   | some _ => (E'.F 1 j true false).bind fun f q =>
    if E'.lone1 f a = true then (match timesOf a.lit a.lit.c0 a.lit.n0 with
     | none => .bad 2 j
     | some m => (E'.X 1 q false).bind fun x r => .ok (.mk 5 0 ⟨#[]⟩ Lt.zero [.mk 26 m ⟨#[]⟩ Lt.zero f.kids (E'.here 0), x] (E'.here 0)) r)
    else (E'.X 1 q false).bind fun x r => .ok (.mk 6 0 ⟨#[]⟩ Lt.zero [f, a, x] (E'.here 0)) r) else .bad 2 q := by
  rw [X_one]
  simp only
  unfold Env.exM
  rw [hskip]
  simp only
  unfold Env.opM
  rw [h0]
  simp only
  unfold Env.op1M
  rw [if_neg (by omega), if_neg (by omega), isp]
  simp only [if_true]
  cases hx1 : E'.X 1 (0 + 1) false with
  | bad er i => rfl
  | ok x q =>
   simp only [Res.bind_ok]
   by_cases cq : E'.is q 6 ⟨#[41]⟩ = true
   ·rw [if_pos cq, if_pos cq]
    rfl
   ·rw [if_neg cq, if_neg cq]
    rfl
 unfold Env.parseM
 rw [hX]
 rcases hA with ⟨i, hA⟩ | ⟨k', hA, hbare⟩
 ·rw [hA]
  exact .inl ⟨i, rfl⟩
 ·rw [hA, Res.bind_ok]
  have hq : E'.is (E.L.length + 1) 6 ⟨#[41]⟩ = true := by
   rw [Env.is_some hn, hc, hc']
   kernel_rfl
  rw [if_pos hq]
  have hi : E'.idxM (fun k => E'.X 1 k false) o.at_ (E'.L.length + 1) (E.L.length + 1 + 1) k' = .ok k' (E.L.length + 2) := by
   unfold Env.idxM
   rw [Env.is_none (by omega), Bool.and_false]
   rfl
  rw [hi, Res.bind_ok]
  have he : E'.ends (E.L.length + 2) = true := by
   unfold Env.ends
   rw [hn2]
  rw [if_pos he, Res.bind_ok, if_neg (by omega)]
  exact .inr ⟨k', _, rfl, hbare⟩
/-- behind a function's sign -/
theorem right_parse {E E' : Env} (hG : SameG E E') {o : Tok} (hL : E'.L = o :: E.L) (ho : o.kind = 4) (hv : hasStr E.vs o.text = true) (hou : (o.text.toList == E.outer.toList) = false)
  (hav : ∀ x, hasStr E.as_ x = true → hasStr E.vs x = false ∧ (x.toList == E.outer.toList) = false) (hpv : ∀ x : ByteArray, (x.toList == E.power.toList) = true → hasStr E.vs x = false ∧ ((x.toList == E.outer.toList) = false ∨ E.outer.toList = [])) (hb : Bal E.L 0 E.L.length) {k : Nd} {j : Nat} (hk : E.parseM = .ok k j) :
  (∃ i, E'.parseM = .bad 15 i) ∨ ∃ k' j' a a', E'.parseM = .ok (.mk 5 0 ⟨#[]⟩ Lt.zero [.mk 21 0 o.text Lt.zero [] a, k'] a') j' ∧ k'.bare = k.bare := by
 obtain ⟨hx, hj⟩ := parse_ok hk
 have hlen : E'.L.length = E.L.length + 1 := by rw [hL]; simp
 have h0 : E'.L[0]? = some o := by rw [hL]; rfl
 have hloc : Loc E E' 1 0 E.L.length := by
  refine ⟨hb, fun p _ hp => ?_, ?_, ?_, Nat.le_refl _, by omega⟩
  ·rw [hL, List.getElem?_cons_succ]
  ·unfold Env.ends
   rw [List.getElem?_eq_none (Nat.le_refl _)]
  ·unfold Env.ends
   rw [List.getElem?_eq_none (by omega)]
 have hgo := go_loc (s := 1) hG (24 - 0 : Int).toNat (24 - 1 : Int).toNat (by decide)
 obtain ⟨_, hA⟩ := hgo.1 0 E.L.length false hloc k j hx
 have hA : After 1 k E.L.length (E'.X 1 1 false) := hA
 -- a program begins with no sign that stands behind a function
 have hkind4 : ∀ t, E.L[0]? = some t → t.kind = 4 → hasStr E.vs t.text = true ∨ ((t.text.toList == E.outer.toList) = true ∧ E.outer.toList ≠ []) := by
  intro t ht h4
  rw [X_one] at hx
  simp only at hx
  unfold Env.exM at hx
  cases hs : E.skipF (E.L.length + 1) 0 false with
  | some q =>
   unfold Env.skipF at hs
   obtain ⟨y, hy, _⟩ := Option.map_eq_some_iff.1 hs
   by_cases hio : E.is 0 4 E.outer = true
   ·right
    rw [Env.is_some ht] at hio
    simp only [Bool.and_eq_true, Bool.not_eq_true', beq_eq_false_iff_ne, ne_eq] at hio
    exact ⟨hio.2.1, hio.2.2⟩
   ·left
    have hio : E.is 0 4 E.outer = false := by simpa using hio
    rw [hio] at hy
    simp only [Bool.false_eq_true, if_false, Bool.false_and] at hy
    unfold Env.headG at hy
    have h5 : ∀ x, E.is 0 5 x = false := by
     intro x
     rw [Env.is_some ht]
     have : (t.kind == 5) = false := beq_eq_false_iff_ne.2 (by omega)
     rw [this]
     rfl
    rw [h5, h5] at hy
    simp only [Bool.false_and, Bool.or_false, Bool.false_eq_true, if_false] at hy
    by_cases hsv : E.sign 0 E.vs = true
    ·rw [Env.sign_some ht] at hsv
     exact (Bool.and_eq_true_iff.1 hsv).2
    ·rw [if_neg hsv] at hy
     cases hy
  | none =>
   rw [hs] at hx
   simp only at hx
   obtain ⟨a, j1, ha, _⟩ := bind_inv hx
   unfold Env.opM at ha
   rw [ht] at ha
   obtain ⟨b, j2, hb1, _⟩ := bind_inv ha
   unfold Env.op1M at hb1
   have h5 : E.is 0 5 ⟨#[40]⟩ = false := by
    rw [Env.is_some ht]
    have : (t.kind == 5) = false := beq_eq_false_iff_ne.2 (by omega)
    rw [this]
    rfl
   rw [if_neg (by omega), if_neg (by omega), h5] at hb1
   simp only [Bool.false_eq_true, if_false] at hb1
   cases hb1
 have hnosign : E.sign 0 E.as_ = false := by
  cases hsg : E.sign 0 E.as_ with
  | false => rfl
  | true =>
   exfalso
   obtain ⟨t, ht, h4⟩ := sign_kind hsg
   rw [Env.sign_some ht] at hsg
   obtain ⟨g1, g2⟩ := hav _ (Bool.and_eq_true_iff.1 hsg).2
   rcases hkind4 t ht h4 with h | h
   ·rw [g1] at h; cases h
   ·rw [g2] at h; cases h.1
 have hnopow : E.pow 0 = none := by
  unfold Env.pow
  by_cases hp : E.is 0 4 E.power = true
  ·exfalso
   obtain ⟨t, ht, h4⟩ := is_kind hp
   rw [Env.is_some ht] at hp
   simp only [Bool.and_eq_true] at hp
   obtain ⟨g1, g2⟩ := hpv _ hp.2.1
   rcases hkind4 t ht h4 with h | h
   ·rw [g1] at h; cases h
   ·rcases g2 with g2 | g2
    ·rw [g2] at h; cases h.1
    ·exact h.2 g2
  ·rw [if_neg hp]
 have hs1 : E'.sign 1 E'.as_ = false := by rw [hG.as_, show (1 : Nat) = 0 + 1 from rfl, hloc.sign (Nat.le_refl _) hloc.le_]; exact hnosign
 have hp1 : E'.pow 1 = none := by rw [show (1 : Nat) = 0 + 1 from rfl, (hloc.pow hG).1]; exact hnopow
 have hsv : E'.sign 0 E'.vs = true := by rw [Env.sign_some h0, hG.vs, ho, hv]; rfl
 have hio : E'.is 0 4 E'.outer = false := by rw [Env.is_some h0, hG.outer, hou]; simp
 have h5 : ∀ x, E'.is 0 5 x = false := by
  intro x
  rw [Env.is_some h0]
  have : (o.kind == 5) = false := beq_eq_false_iff_ne.2 (by omega)
  rw [this]
  rfl
 have hskip : ∃ q, E'.skipF (E'.L.length + 1) 0 false = some q := by
  unfold Env.skipF
  rw [hio]
  unfold Env.headG
  simp only [Bool.false_eq_true, if_false, hsv, Bool.true_or, if_true, Option.map_some]
  exact ⟨_, rfl⟩
 obtain ⟨q, hskip⟩ := hskip
 have hF : E'.F 1 0 false false = .ok (.mk 21 0 o.text Lt.zero [] (E'.here 0)) 1 := by
  rw [Env.F_step (by decide)]
  unfold Env.funM
  rw [hio]
  simp only [Bool.false_eq_true, if_false]
  unfold Env.baseM
  rw [h5, h5]
  simp only [Bool.false_eq_true, if_false]
  rw [Res.bind_ok]
  have ht : E'.text 0 = o.text := by unfold Env.text; rw [h0]
  rw [ht]
  unfold Env.tailM
  rw [hs1, hp1]
  rfl
 unfold Env.parseM
 rw [X_one]
 simp only
 unfold Env.exM
 rw [hskip]
 simp only
 rw [hF, Res.bind_ok]
 rcases hA with ⟨i, hA⟩ | ⟨k', hA, hbare⟩
 ·rw [hA]
  exact .inl ⟨i, rfl⟩
 ·rw [hA, Res.bind_ok, Res.bind_ok, if_neg (by omega)]
  exact .inr ⟨k', _, _, _, rfl, hbare⟩
end Go.Proofs.Ytollglblkbjgjaa
namespace Go.Proofs.Ytollglblkbjgjaa
open Go.RowKit

/-- what a result has read is as said -/
def Holds {α : Type} (P : α → Prop) (r : Res α) : Prop := ∀ k j, r = .ok k j → P k
theorem holds_ok {α : Type} {P : α → Prop} {k : α} (h : P k) (j : Nat) : Holds P (.ok k j : Res α) := fun _ _ e => by cases e; exact h
theorem holds_bad {α : Type} {P : α → Prop} (er : Int) (j : Nat) : Holds P (.bad er j : Res α) := fun _ _ e => by cases e
theorem holds_bind {α β : Type} {P : α → Prop} {Q : β → Prop} {r : Res α} {f : α → Nat → Res β} (h : Holds P r) (hf : ∀ k j, P k → Holds Q (f k j)) : Holds Q (r.bind f) := by
 cases r with
 | ok k j => exact hf k j (h k j rfl)
 | bad er i => exact holds_bad er i
theorem holds_ite {α : Type} {P : α → Prop} {c : Prop} [Decidable c] {a b : Res α} (ha : Holds P a) (hb : Holds P b) : Holds P (if c then a else b) := by
 by_cases h : c
 ·rw [if_pos h]; exact ha
 ·rw [if_neg h]; exact hb
theorem litss_iff {l : Lt} : ∀ {ks : List Nd}, l ∈ litss ks → ∃ x ∈ ks, l ∈ x.lits
 | [], h => by simp [litss] at h
 | k :: ks, h => by
  rcases List.mem_append.1 h with h | h
  ·exact ⟨k, List.mem_cons_self, h⟩
  ·obtain ⟨x, h1, h2⟩ := litss_iff h
   exact ⟨x, List.mem_cons_of_mem _ h1, h2⟩
/-- each literal of a part is as said -/
def LQ (Q : Lt → Prop) (k : Nd) : Prop := ∀ l ∈ k.lits, Q l
theorem lq_mk {Q : Lt → Prop} {k o : Int} {nm : ByteArray} {l : Lt} {ks : List Nd} {a : Int} (hl : Q l) (hk : ∀ x ∈ ks, LQ Q x) : LQ Q (.mk k o nm l ks a) := by
 intro l' h
 rw [Nd.lits_eq] at h
 rcases List.mem_cons.1 h with h | h
 ·rw [h]; exact hl
 ·obtain ⟨x, h1, h2⟩ := litss_iff h
  exact hk x h1 l' h2
theorem lq_kids {Q : Lt → Prop} {k : Nd} (h : LQ Q k) : ∀ x ∈ k.kids, LQ Q x := by
 intro x hx l hl
 obtain ⟨i, hi, rfl⟩ := List.getElem_of_mem hx
 exact h l (by rw [Nd.lits_eq]; exact List.mem_cons_of_mem _ (litss_mem (i := i) (List.getElem?_eq_getElem hi) hl))
mutual
theorem Nd.righted_lits : ∀ k : Nd, k.righted.lits = k.lits
 | .mk k o nm l ks a => by
  rw [Nd.righted]
  split
  ·rfl
  ·simp only [Nd.lits, righteds_lits ks]
theorem righteds_lits : ∀ ks : List Nd, litss (righteds ks) = litss ks
 | [] => rfl
 | k :: ks => by simp only [righteds, litss, Nd.righted_lits k, righteds_lits ks]
end
theorem lq_righted {Q : Lt → Prop} {k : Nd} (h : LQ Q k) : LQ Q k.righted := by
 intro l hl
 rw [Nd.righted_lits] at hl
 exact h l hl
theorem lq0 {Q : Lt → Prop} (hz : Q Lt.zero) {k o : Int} {nm : ByteArray} {a : Int} : LQ Q (.mk k o nm Lt.zero [] a) := lq_mk hz (fun x h => by simp at h)
theorem lq1 {Q : Lt → Prop} (hz : Q Lt.zero) {k o : Int} {nm : ByteArray} {a : Int} {x : Nd} (hx : LQ Q x) : LQ Q (.mk k o nm Lt.zero [x] a) := lq_mk hz (fun y h => by rw [List.mem_singleton.1 h]; exact hx)
theorem lq2 {Q : Lt → Prop} (hz : Q Lt.zero) {k o : Int} {nm : ByteArray} {a : Int} {x y : Nd} (hx : LQ Q x) (hy : LQ Q y) : LQ Q (.mk k o nm Lt.zero [x, y] a) := lq_mk hz (fun z h => by
 rcases List.mem_cons.1 h with h | h
 ·rw [h]; exact hx
 ·rw [List.mem_singleton.1 h]; exact hy)
theorem lq3 {Q : Lt → Prop} (hz : Q Lt.zero) {k o : Int} {nm : ByteArray} {a : Int} {x y z : Nd} (hx : LQ Q x) (hy : LQ Q y) (hzz : LQ Q z) : LQ Q (.mk k o nm Lt.zero [x, y, z] a) := lq_mk hz (fun u h => by
 rcases List.mem_cons.1 h with h | h
 ·rw [h]; exact hx
 ·rcases List.mem_cons.1 h with h | h
  ·rw [h]; exact hy
  ·rw [List.mem_singleton.1 h]; exact hzz)
theorem lq_grp {Q : Lt → Prop} (E : Env) {F : Nat → Res Nd} (hF : ∀ k, Holds (LQ Q) (F k)) : ∀ g k acc, (∀ x ∈ acc, LQ Q x) → Holds (fun l => ∀ x ∈ l, LQ Q x) (E.grpM F g k acc)
 | 0, k, _, _ => holds_bad _ k
 | g + 1, k, acc, h => holds_ite (holds_ok h _) (holds_bind (hF k) fun x j hx => lq_grp E hF g j _ (fun y hy => by
   rcases List.mem_append.1 hy with hy | hy
   ·exact h y hy
   ·rw [List.mem_singleton.1 hy]; exact hx))
theorem lq_grpNd {Q : Lt → Prop} (hz : Q Lt.zero) {a : Int} {ks : List Nd} (h : ∀ x ∈ ks, LQ Q x) : LQ Q (grpNd a ks) := by
 unfold grpNd
 split
 ·exact h _ List.mem_cons_self
 ·exact lq_mk hz h
theorem lq_tail {Q : Lt → Prop} (hz : Q Lt.zero) (E : Env) (a : Int) : ∀ g k kd, LQ Q kd → Holds (LQ Q) (E.tailM a g k kd)
 | 0, _, _, h => holds_ok h _
 | g + 1, k, kd, h => by
  unfold Env.tailM
  refine holds_ite (lq_tail hz E a g _ _ (lq1 hz h)) ?_
  cases E.pow k with
  | none => exact holds_ok h _
  | some n => exact lq_tail hz E a g _ _ (lq1 hz h)
theorem lq_idx {Q : Lt → Prop} (hz : Q Lt.zero) (E : Env) {X : Nat → Res Nd} (hX : ∀ k, Holds (LQ Q) (X k)) (a : Int) : ∀ g k kd, LQ Q kd → Holds (LQ Q) (E.idxM X a g k kd)
 | 0, k, _, _ => holds_bad _ k
 | g + 1, _, _, h => holds_ite (holds_bind (hX _) fun _ _ hx => holds_ite (lq_idx hz E hX a g _ _ (lq2 hz h hx)) (holds_bad _ _)) (holds_ok h _)
theorem lq_lam {Q : Lt → Prop} (hz : Q Lt.zero) (E : Env) {X : Nat → Bool → Res Nd} (hX : ∀ k b, Holds (LQ Q) (X k b)) (i : Nat) : Holds (LQ Q) (E.lamM X i) :=
 holds_bind (hX _ _) fun _ _ hb => holds_ite (holds_ite (holds_ok (lq1 hz hb) _) (holds_ite (holds_bad _ _) (holds_ok (lq1 hz (lq_righted hb)) _))) (holds_bad _ _)
theorem lq_base {Q : Lt → Prop} (hz : Q Lt.zero) (E : Env) {X F : Nat → Bool → Res Nd} (hX : ∀ k b, Holds (LQ Q) (X k b)) (hF : ∀ k b, Holds (LQ Q) (F k b)) (i : Nat) (b : Bool) : Holds (LQ Q) (E.baseM X F i b) :=
 holds_ite (lq_lam hz E hX i) (holds_ite (holds_bind (lq_grp E (fun k => hF k b) _ _ _ (fun x h => by simp at h)) fun ks _ h => holds_ok (lq_grpNd hz h) _) (holds_ok (lq0 hz) _))
theorem lq_fun {Q : Lt → Prop} (hz : Q Lt.zero) (E : Env) {X F : Nat → Bool → Res Nd} (hX : ∀ k b, Holds (LQ Q) (X k b)) (hF : ∀ k b, Holds (LQ Q) (F k b)) (i : Nat) (b : Bool) : Holds (LQ Q) (E.funM X F i b) :=
 holds_bind (lq_base hz E hX hF _ _) fun kd _ h => lq_tail hz E _ _ _ _ (by split; exact lq1 hz h; exact h)
theorem lq_op {Q : Lt → Prop} (hz : Q Lt.zero) (E : Env) (hL : ∀ (i : Nat) (t : Tok), E.L[i]? = some t → Q t.lit) {X : Nat → Res Nd} (hX : ∀ k, Holds (LQ Q) (X k)) (i : Nat) (inn : Bool) : Holds (LQ Q) (E.opM X i inn) := by
 unfold Env.opM
 cases ht : E.L[i]? with
 | none => exact holds_bad _ _
 | some t =>
  refine holds_bind (P := LQ Q) ?_ fun _ _ h => lq_idx hz E hX _ _ _ _ h
  exact holds_ite (holds_ok (lq_mk (hL i t ht) (fun x h => by simp at h)) _) (holds_ite (holds_ite (holds_ok (lq0 hz) _) (holds_ite (holds_ok (lq0 hz) _) (holds_ite (holds_ok (lq0 hz) _) (holds_bad _ _)))) (holds_ite (holds_bind (hX _) fun x j h => holds_ite (holds_ok h _) (holds_bad _ _)) (holds_bad _ _)))
theorem lq_ex {Q : Lt → Prop} (hz : Q Lt.zero) (E : Env) (hL : ∀ (i : Nat) (t : Tok), E.L[i]? = some t → Q t.lit) {X : Nat → Bool → Res Nd} {F : Nat → Bool → Bool → Res Nd} (hX : ∀ k b, Holds (LQ Q) (X k b)) (hF : ∀ k b c, Holds (LQ Q) (F k b c)) (i : Nat) (inn : Bool) : Holds (LQ Q) (E.exM X F i inn) := by
 unfold Env.exM
 cases E.skipF (E.L.length + 1) i false with
 | some _ => exact holds_bind (hF _ _ _) fun f j hf => holds_bind (hX _ _) fun x q hx => holds_ok (lq2 hz hf hx) _
 | none =>
  refine holds_bind (lq_op hz E hL (fun k => hX k inn) i inn) fun a j ha => holds_ite (holds_ok ha _) ?_
  cases E.skipF (E.L.length + 1) j true with
  | none => exact holds_bad _ _
  | some _ =>
   refine holds_bind (hF _ _ _) fun f q hf => holds_ite ?_ (holds_bind (hX _ _) fun x r hx => holds_ok (lq3 hz hf ha hx) _)
   cases timesOf a.lit a.lit.c0 a.lit.n0 with
   | none => exact holds_bad _ _
   | some m => exact holds_bind (hX _ _) fun x r hx => holds_ok (lq2 hz (lq_mk hz (lq_kids hf)) hx) _
theorem lq_go {Q : Lt → Prop} (hz : Q Lt.zero) (E : Env) (hL : ∀ (i : Nat) (t : Tok), E.L[i]? = some t → Q t.lit) : ∀ f, (∀ k b, Holds (LQ Q) ((E.go f).1 k b)) ∧ ∀ k b c, Holds (LQ Q) ((E.go f).2 k b c)
 | 0 => ⟨fun k _ => holds_bad _ k, fun k _ _ => holds_bad _ k⟩
 | f + 1 => ⟨fun k b => lq_ex hz E hL (lq_go hz E hL f).1 (lq_go hz E hL f).2 k b, fun k b c => lq_fun hz E (lq_go hz E hL f).1 (fun k' c' => (lq_go hz E hL f).2 k' c' c) k b⟩
theorem lq_parse {Q : Lt → Prop} (hz : Q Lt.zero) (E : Env) (hL : ∀ (i : Nat) (t : Tok), E.L[i]? = some t → Q t.lit) {k : Nd} {j : Nat} (h : E.parseM = .ok k j) : ∀ l ∈ k.lits, Q l :=
 (holds_bind (Q := LQ Q) ((lq_go hz E hL _).1 _ _) fun _ _ hk => holds_ite (holds_bad _ _) (holds_ok hk _)) k j h
/-- where a result is none, it is a fault -/
def Fair {α : Type} (r : Res α) : Prop := ∀ er i, r = .bad er i → er ≠ 0
theorem fair_ok {α : Type} (k : α) (j : Nat) : Fair (.ok k j : Res α) := fun _ _ h => by cases h
theorem fair_bad {α : Type} {er : Int} (h : er ≠ 0) (j : Nat) : Fair (.bad er j : Res α) := fun _ _ e => by cases e; exact h
theorem fair_bind {α β : Type} {r : Res α} {f : α → Nat → Res β} (h : Fair r) (hf : ∀ k j, Fair (f k j)) : Fair (r.bind f) := by
 cases r with
 | ok k j => exact hf k j
 | bad er i => exact fair_bad (h er i rfl) i
theorem fair_ite {α : Type} {c : Prop} [Decidable c] {a b : Res α} (ha : Fair a) (hb : Fair b) : Fair (if c then a else b) := by
 by_cases h : c
 ·rw [if_pos h]; exact ha
 ·rw [if_neg h]; exact hb
theorem fair_grp (E : Env) {F : Nat → Res Nd} (hF : ∀ k, Fair (F k)) : ∀ g k acc, Fair (E.grpM F g k acc)
 | 0, k, _ => fair_bad (by decide) k
 | g + 1, k, acc => fair_ite (fair_ok _ _) (fair_bind (hF k) fun x j => fair_grp E hF g j _)
theorem fair_tail (E : Env) (a : Int) : ∀ g k kd, Fair (E.tailM a g k kd)
 | 0, _, _ => fair_ok _ _
 | g + 1, k, kd => by
  unfold Env.tailM
  refine fair_ite (fair_tail E a g _ _) ?_
  cases E.pow k with
  | none => exact fair_ok _ _
  | some n => exact fair_tail E a g _ _
theorem fair_idx (E : Env) {X : Nat → Res Nd} (hX : ∀ k, Fair (X k)) (a : Int) : ∀ g k kd, Fair (E.idxM X a g k kd)
 | 0, k, _ => fair_bad (by decide) k
 | g + 1, k, kd => fair_ite (fair_bind (hX _) fun x j => fair_ite (fair_idx E hX a g _ _) (fair_bad (by decide) _)) (fair_ok _ _)
theorem fair_lam (E : Env) {X : Nat → Bool → Res Nd} (hX : ∀ k b, Fair (X k b)) (i : Nat) : Fair (E.lamM X i) :=
 fair_bind (hX _ _) fun body j => fair_ite (fair_ite (fair_ok _ _) (fair_ite (fair_bad (by decide) _) (fair_ok _ _))) (fair_bad (by decide) _)
theorem fair_base (E : Env) {X F : Nat → Bool → Res Nd} (hX : ∀ k b, Fair (X k b)) (hF : ∀ k b, Fair (F k b)) (i : Nat) (b : Bool) : Fair (E.baseM X F i b) :=
 fair_ite (fair_lam E hX i) (fair_ite (fair_bind (fair_grp E (fun k => hF k b) _ _ _) fun _ _ => fair_ok _ _) (fair_ok _ _))
theorem fair_fun (E : Env) {X F : Nat → Bool → Res Nd} (hX : ∀ k b, Fair (X k b)) (hF : ∀ k b, Fair (F k b)) (i : Nat) (b : Bool) : Fair (E.funM X F i b) :=
 fair_bind (fair_base E hX hF _ _) fun _ _ => fair_tail E _ _ _ _
theorem fair_op (E : Env) {X : Nat → Res Nd} (hX : ∀ k, Fair (X k)) (i : Nat) (inn : Bool) : Fair (E.opM X i inn) := by
 unfold Env.opM
 cases E.L[i]? with
 | none => exact fair_bad (by decide) _
 | some t =>
  refine fair_bind ?_ fun _ _ => fair_idx E hX _ _ _ _
  exact fair_ite (fair_ok _ _) (fair_ite (fair_ite (fair_ok _ _) (fair_ite (fair_ok _ _) (fair_ite (fair_ok _ _) (fair_bad (by decide) _)))) (fair_ite (fair_bind (hX _) fun x j => fair_ite (fair_ok _ _) (fair_bad (by decide) _)) (fair_bad (by decide) _)))
theorem fair_ex (E : Env) {X : Nat → Bool → Res Nd} {F : Nat → Bool → Bool → Res Nd} (hX : ∀ k b, Fair (X k b)) (hF : ∀ k b c, Fair (F k b c)) (i : Nat) (inn : Bool) : Fair (E.exM X F i inn) := by
 unfold Env.exM
 cases E.skipF (E.L.length + 1) i false with
 | some _ => exact fair_bind (hF _ _ _) fun f j => fair_bind (hX _ _) fun x q => fair_ok _ _
 | none =>
  refine fair_bind (fair_op E (fun k => hX k inn) i inn) fun a j => fair_ite (fair_ok _ _) ?_
  cases E.skipF (E.L.length + 1) j true with
  | none => exact fair_bad (by decide) _
  | some _ =>
   refine fair_bind (hF _ _ _) fun f q => fair_ite ?_ (fair_bind (hX _ _) fun x r => fair_ok _ _)
   cases timesOf a.lit a.lit.c0 a.lit.n0 with
   | none => exact fair_bad (by decide) _
   | some m => exact fair_bind (hX _ _) fun x r => fair_ok _ _
theorem fair_go (E : Env) : ∀ f, (∀ k b, Fair ((E.go f).1 k b)) ∧ ∀ k b c, Fair ((E.go f).2 k b c)
 | 0 => ⟨fun k _ => fair_bad (by decide) k, fun k _ _ => fair_bad (by decide) k⟩
 | f + 1 => ⟨fun k b => fair_ex E (fair_go E f).1 (fair_go E f).2 k b, fun k b c => fair_fun E (fair_go E f).1 (fun k' c' => (fair_go E f).2 k' c' c) k b⟩
theorem parse_fair (E : Env) : Fair E.parseM := fair_bind ((fair_go E _).1 _ _) fun k j => fair_ite (fair_bad (by decide) _) (fair_ok _ _)
/-- what the parser gives: a part, or a fault -/
def ParseU (E : Env) (w : World) (e : Ending) (w' : World) : Prop := Below w.heap.size w w' ∧
 ∃ (kd o : Int) (nm : ByteArray) (sA : Option Addr) (sn sc : Nat) (cA : Option Addr) (cn cc : Nat) (kA : Option Addr) (kn kc : Nat) (a eh ah : Int),
  e = .returned (.tuple #[.agg #[.int .i64 kd, .int .i64 o, .string nm, .slice sA sn sc, .slice cA cn cc, .slice kA kn kc, .int .i64 a], .agg #[.int .i64 eh, .int .i64 ah, .int .i64 0]]) ∧
  ((eh ≠ 0 ∧ ∃ ix, E.parseM = .bad eh ix) ∨ (eh = 0 ∧ ∃ k j, E.parseM = .ok k j ∧ NdAt (w.heap.size ≤ ·) w' (.agg #[.int .i64 kd, .int .i64 o, .string nm, .slice sA sn sc, .slice cA cn cc, .slice kA kn kc, .int .i64 a]) k ∧ k.size ≤ 2 * j ∧ j ≤ E.L.length ∧ Bal E.L 0 j))
theorem parse_u (E : Env) (w : World) (hE : EnvAt w E) (hts : ∀ (i : Nat) (t : Tok), E.L[i]? = some t → t.text.size ≤ 9223372036854775000) : Calls Try.prog 9 #[E.gramV, .slice E.lA E.L.length E.lc, .int .i64 E.en] w (ParseU E w) := by
 refine (parse_any E w hE hts).mono ?_
 rintro e w' ⟨hb, hcase⟩
 refine ⟨hb, ?_⟩
 rcases hcase with ⟨er, ix, hbad, rfl⟩ | ⟨v, k, j, hgood, rfl, hnd, hsz, hj, hbal⟩
 ·exact ⟨_, _, _, _, _, _, _, _, _, _, _, _, _, _, _, rfl, .inl ⟨parse_fair E er ix hbad, ix, hbad⟩⟩
 ·obtain ⟨o, l, A, c, a, vs, rfl, hl, hc, hrow, hkids⟩ := hnd.form
  exact ⟨_, _, _, _, _, _, _, _, _, _, _, _, _, _, _, rfl, .inr ⟨rfl, k, j, hgood, hnd, hsz, hj, hbal⟩⟩
end Go.Proofs.Ytollglblkbjgjaa
