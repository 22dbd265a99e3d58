/- Contract of the reference's Lex of APL. Conditions: none. -/
import Derived.Test.YtollglblkbjgjaaHi
namespace Go.Proofs.Ytollglblkbjgjaa
open Go.RowKit

theorem cels_at : ∀ (cs : List (Int × Int)) (i : Nat), i < cs.length → (cels cs)[i * 3]? = some (.int .i64 (cs.getD i (0, 0)).1) ∧ (cels cs)[i * 3 + 1]? = some (.int .i64 (cs.getD i (0, 0)).2) ∧ (cels cs)[i * 3 + 2]? = some (.slice none 0 0)
 | [], i, h => absurd h (Nat.not_lt_zero _)
 | c :: cs, 0, _ => ⟨rfl, rfl, rfl⟩
 | c :: cs, i + 1, h => by
  have ih := cels_at cs i (by simpa using h)
  have e : cels (c :: cs) = .int .i64 c.1 :: .int .i64 c.2 :: .slice none 0 0 :: cels cs := rfl
  rw [e]
  refine ⟨?_, ?_, ?_⟩
  ·rw [show (i + 1) * 3 = i * 3 + 1 + 1 + 1 by omega]; simpa using ih.1
  ·rw [show (i + 1) * 3 + 1 = i * 3 + 1 + 1 + 1 + 1 by omega]; simpa using ih.2.1
  ·rw [show (i + 1) * 3 + 2 = i * 3 + 2 + 1 + 1 + 1 by omega]; simpa using ih.2.2

/-- a word's cells -/
def tokVals (t : Tok) : List Value := [.int .i64 t.kind, .string t.text, .slice t.lit.sA t.lit.sn t.lit.sc, .slice t.lit.cA t.lit.cn t.lit.cc, .int .i64 t.at_]
def toksVals (l : List Tok) : List Value := l.flatMap tokVals
theorem toksVals_snoc (l : List Tok) (t : Tok) : toksVals (l ++ [t]) = toksVals l ++ tokVals t := by simp [toksVals]
theorem toksVals_length (l : List Tok) : (toksVals l).length = l.length * 5 := by
 induction l with
 | nil => rfl
 | cons x r ih => simp only [toksVals, List.flatMap_cons, List.length_append, List.length_cons] at *; rw [ih]; simp [tokVals]; omega
theorem toksVals_get : ∀ (l : List Tok) (i : Nat) (t : Tok), l[i]? = some t → ∀ j, j < 5 → (toksVals l)[i * 5 + j]? = (tokVals t)[j]?
 | [], i, t, h, _, _ => by simp at h
 | x :: r, 0, t, h, j, hj => by
  simp at h
  subst h
  show (tokVals x ++ toksVals r)[0 * 5 + j]? = _
  rw [Nat.zero_mul, Nat.zero_add, List.getElem?_append_left (by simpa [tokVals] using hj)]
 | x :: r, i + 1, t, h, j, hj => by
  show (tokVals x ++ toksVals r)[(i + 1) * 5 + j]? = _
  rw [List.getElem?_append_right (by simp [tokVals]; omega), show (i + 1) * 5 + j - (tokVals x).length = i * 5 + j by simp [tokVals]; omega]
  exact toksVals_get r i t (by simpa using h) j hj
/-- a word's number reads in memory -/
def TokIn (S : Nat → Prop) (w : World) (t : Tok) : Prop := ∃ D : ArrD, LitAt S w (.agg #[.slice t.lit.sA t.lit.sn t.lit.sc, .slice t.lit.cA t.lit.cn t.lit.cc]) D ∧ (0 < t.lit.cn → D.cells[0]? = some (t.lit.c0, t.lit.n0))
theorem TokIn.mono {S T : Nat → Prop} {w w' : World} {t : Tok} (h : TokIn S w t) (hs : w.heap.size ≤ w'.heap.size) (hST : ∀ b, S b → b < w.heap.size → T b ∧ w'.heap[b]? = w.heap[b]?) : TokIn T w' t := by
 obtain ⟨D, h1, h2⟩ := h
 exact ⟨D, h1.mono hs hST, h2⟩
theorem TokV.tok {R : Nat} {w : World} {v : Value} {k : Int} {x : ByteArray} {a : Nat} (h : TokV R w v k x a) : ∃ t : Tok, t.kind = k ∧ t.text = x ∧ v = .agg (tokVals t).toArray ∧ TokIn (R ≤ ·) w t := by
 obtain ⟨A, n, c, B, m, d, D, rfl, hl⟩ := h
 refine ⟨⟨k, x, ⟨A, n, c, B, m, d, (D.cells.getD 0 (0, 0)).1, (D.cells.getD 0 (0, 0)).2⟩, (a : Int)⟩, rfl, rfl, rfl, D, hl, fun h0 => ?_⟩
 obtain ⟨A', n', c', B', m', d', e, _, hm, _⟩ := hl
 simp only [Value.agg.injEq, Array.mk.injEq, List.cons.injEq, Value.slice.injEq, and_true] at e
 have : 0 < D.cells.length := by
  have h1 := e.2.2.1
  have h2 : 0 < m := h0
  omega
 rw [List.getD_eq_getElem?_getD, List.getElem?_eq_getElem this]
 rfl
theorem TokIn.flat {S : Nat → Prop} {w : World} {t : Tok} (h : TokIn S w t) : FlatL w t.lit ∧ LitRead w t.lit t.lit.c0 t.lit.n0 := by
 obtain ⟨D, ⟨A, n, c, B, m, d, e, hn, hm, hn6, hm6, hA, hB⟩, hc⟩ := h
 simp only [Value.agg.injEq, Array.mk.injEq, List.cons.injEq, Value.slice.injEq, and_true] at e
 obtain ⟨⟨e1, e2, e3⟩, e4, e5, e6⟩ := e
 subst e1 e2 e3 e4 e5 e6
 refine ⟨⟨by omega, by omega, fun h0 => ?_, fun h0 => ?_⟩, fun h0 => ?_⟩
 ·obtain ⟨b, hb, _, _, hcell⟩ := hA (by rw [nums_length]; omega)
  refine ⟨b, 0, hb, fun i hi => ⟨D.shape.getD i 0, ?_⟩⟩
  rw [Nat.zero_add]
  exact hcell i _ (nums_get _ _ _ (by omega))
 ·obtain ⟨b, hb, _, _, hcell⟩ := hB (by rw [cels_length]; omega)
  refine ⟨b, 0, hb, fun i hi => ⟨(D.cells.getD i (0, 0)).1, (D.cells.getD i (0, 0)).2, ?_⟩⟩
  have hi' : i < D.cells.length := by omega
  obtain ⟨g0, g1, g2⟩ := cels_at D.cells i hi'
  rw [Nat.zero_add]
  exact ⟨hcell _ _ g0, hcell _ _ g1, hcell _ _ g2⟩
 ·obtain ⟨b, hb, _, _, hcell⟩ := hB (by rw [cels_length]; omega)
  have h1 := hc h0
  obtain ⟨g0, g1, _⟩ := cels_at D.cells 0 (by omega)
  have h2 : D.cells.getD 0 (0, 0) = (t.lit.c0, t.lit.n0) := by rw [List.getD_eq_getElem?_getD, h1]; rfl
  rw [h2] at g0 g1
  exact ⟨b, 0, hb, by simpa using hcell _ _ g0, by simpa using hcell _ _ g1⟩
/-- words that a lexer has made: they read in memory, their numbers have no boxes -/
structure ToksGood (s : ByteArray) (w : World) (A : Option Addr) (L : List Tok) : Prop where
 read : ToksRead w A L
 flat : ∀ (i : Nat) (t : Tok), L[i]? = some t → FlatL w t.lit
 text : ∀ (i : Nat) (t : Tok), L[i]? = some t → t.text.size ≤ s.size
 len : L.length ≤ 2048
theorem own_toks {s : ByteArray} {w : World} {base : Nat} {A : Option Addr} {c : Nat} {L : List Tok} {S : Nat → Prop} (h : w.ownsRow base 43 5 (.slice A L.length c) L.length (toksVals L)) (hT : ∀ (i : Nat) (t : Tok), L[i]? = some t → TokIn S w t ∧ t.text.size ≤ s.size) (hl : L.length ≤ 2048) : ToksGood s w A L := by
 refine ⟨fun h0 => ?_, fun i t ht => (hT i t ht).1.flat.1, fun i t ht => (hT i t ht).2, hl⟩
 obtain ⟨b, hb, _, _, hcell⟩ := rowIn_own h (by rw [toksVals_length]; omega)
 refine ⟨b, 0, hb, fun j t ht => ?_⟩
 have g := fun k hk => toksVals_get L j t ht k hk
 have g0 := g 0 (by omega)
 have g1 := g 1 (by omega)
 have g2 := g 2 (by omega)
 have g3 := g 3 (by omega)
 have g4 := g 4 (by omega)
 rw [Nat.zero_add]
 exact ⟨hcell _ _ g0, hcell _ _ g1, hcell _ _ g2, hcell _ _ g3, hcell _ _ g4, (hT j t ht).1.flat.2⟩
theorem ToksGood.nil (s : ByteArray) (w : World) : ToksGood s w none [] := ⟨fun h => by simp at h, fun i t h => by simp at h, fun i t h => by simp at h, by simp⟩
/-- words that stay good in each world that has the same blocks from R on -/
def ToksKept (s : ByteArray) (R : Nat) (w : World) (A : Option Addr) (L : List Tok) : Prop := ∀ w2 : World, w.heap.size ≤ w2.heap.size → (∀ b, R ≤ b → b < w.heap.size → w2.heap[b]? = w.heap[b]?) → ToksGood s w2 A L
theorem ToksKept.good {s : ByteArray} {R : Nat} {w : World} {A : Option Addr} {L : List Tok} (h : ToksKept s R w A L) : ToksGood s w A L := h w (Nat.le_refl _) fun _ _ _ => rfl
theorem ToksKept.nil (s : ByteArray) (R : Nat) (w : World) : ToksKept s R w none [] := fun w2 _ _ => ToksGood.nil s w2
theorem cell_agree {w w2 : World} {b : Nat} (h : w2.heap[b]? = w.heap[b]?) (i : Nat) : w2.cell? ⟨b, i, none⟩ = w.cell? ⟨b, i, none⟩ := by simp [World.cell?, h]
theorem own_kept {s : ByteArray} {w : World} {base R : Nat} {A : Option Addr} {c : Nat} {L : List Tok} {S : Nat → Prop} (hR : R ≤ base) (hS : ∀ b, S b → R ≤ b) (h : w.ownsRow base 43 5 (.slice A L.length c) L.length (toksVals L)) (hT : ∀ (i : Nat) (t : Tok), L[i]? = some t → TokIn S w t ∧ t.text.size ≤ s.size) (hl : L.length ≤ 2048) : ToksKept s R w A L := by
 intro w2 hs hag
 have hT2 : ∀ (i : Nat) (t : Tok), L[i]? = some t → TokIn (fun _ => True) w2 t := fun i t ht => (hT i t ht).1.mono hs (fun b hb hlt => ⟨trivial, hag b (hS b hb) hlt⟩)
 refine ⟨fun h0 => ?_, fun i t ht => (hT2 i t ht).flat.1, fun i t ht => (hT i t ht).2, hl⟩
 obtain ⟨b, hb, hbb, hlt, hcell0⟩ := rowIn_own h (by rw [toksVals_length]; omega)
 have hcell : ∀ (i : Nat) (u : Value), (toksVals L)[i]? = some u → w2.cell? ⟨b, i, none⟩ = some u := fun i u hu => (cell_agree (hag b (Nat.le_trans hR hbb) hlt) i).trans (hcell0 i u hu)
 refine ⟨b, 0, hb, fun j t ht => ?_⟩
 have g := fun k hk => toksVals_get L j t ht k hk
 have g0 := g 0 (by omega)
 have g1 := g 1 (by omega)
 have g2 := g 2 (by omega)
 have g3 := g 3 (by omega)
 have g4 := g 4 (by omega)
 rw [Nat.zero_add]
 exact ⟨hcell _ _ g0, hcell _ _ g1, hcell _ _ g2, hcell _ _ g3, hcell _ _ g4, (hT2 j t ht).flat.2⟩
/-- which kinds and texts the words of a text have, where that is known ahead -/
def lexM (OM : ByteArray → Nat → Option (Int × ByteArray × Nat)) (E : ByteArray → Nat → Bool) (s : ByteArray) : Nat → Nat → Option (List (Int × ByteArray))
 | 0, _ => none
 | f + 1, i => if E s i = true then some [] else match OM s i with
  | some (k, x, j) => (lexM OM E s f (blanks s j)).map fun l => (k, x) :: l
  | none => none
def kx (t : Tok) : Int × ByteArray := (t.kind, t.text)
theorem own_slice2 {w : World} {base n : Nat} {e : TypeId} {size : Nat} {v : Value} {xs : List Value} (h : w.ownsRow base e size v n xs) : ∃ A c, v = .slice A n c ∧ n ≤ c ∧ c ≤ 9223372036854775807 := by
 rcases h.2 with ⟨rfl, rfl⟩ | ⟨g, cap, cur, rfl, _, _, hc, hm, _, _⟩
 ·exact ⟨none, 0, rfl, Nat.le_refl _, by omega⟩
 ·unfold maxLen at hm
  exact ⟨_, _, rfl, hc, hm⟩
theorem TokIn.set {S : Nat → Prop} {w : World} {t : Tok} {g i : Nat} {u : Value} (h : TokIn S w t) (hg : ∀ b, S b → b ≠ g) : TokIn S (w.setCell ⟨g, i, none⟩ u) t :=
 h.mono (by simp [World.setCell]) (fun b hS _ => ⟨hS, Below.heap_setCell w _ u b (by simpa using hg b hS)⟩)
theorem TokIn.below {S : Nat → Prop} {w w' : World} {t : Tok} (h : TokIn S w t) (hb : Below w.heap.size w w') : TokIn S w' t :=
 h.mono hb.size (fun b hS hlt => ⟨hS, hb.block b hlt⟩)
theorem tok_push {w2 W1 w5 : World} {L : List Tok} {t : Tok} {v : Value} {gg H B R N n cap : Nat} (htk : ∀ (i : Nat) (t : Tok), L[i]? = some t → TokIn (fun b => B ≤ b ∧ Value.ownBlock v ≠ some b) w2 t ∧ t.text.size ≤ N)
  (hv : ∀ b, Value.ownBlock v = some b → b < R) (ht : TokIn (R ≤ ·) w2 t) (hx : t.text.size ≤ N) (hB : B ≤ R) (hal : Below w2.heap.size w2 W1) (hgrow : W1.grownBy w5 (Value.ownBlock v)) (hat : Value.ownBlock v = some gg ∨ gg = H) (hH : w2.heap.size ≤ H) :
  ∀ (i : Nat) (t' : Tok), (L ++ [t])[i]? = some t' → TokIn (fun b => B ≤ b ∧ Value.ownBlock (.slice (some ⟨gg, 0, none⟩) n cap) ≠ some b) w5 t' ∧ t'.text.size ≤ N := by
 have hsz := Nat.le_trans hal.size hgrow.size
 have key : ∀ b, Value.ownBlock v ≠ some b → b < w2.heap.size → Value.ownBlock (.slice (some ⟨gg, 0, none⟩) n cap) ≠ some b ∧ w5.heap[b]? = w2.heap[b]? := by
  intro b hb hlt
  refine ⟨?_, (hgrow.block b (by have := hal.size; omega) (fun e => hb e.symm)).trans (hal.block b hlt)⟩
  intro e
  have e' : gg = b := by simpa [Value.ownBlock] using e
  rcases hat with h | h
  ·exact hb (by rw [h, e'])
  ·omega
 intro i t' h
 by_cases hi : i < L.length
 ·rw [List.getElem?_append_left hi] at h
  exact ⟨(htk i t' h).1.mono hsz (fun b hS hlt => ⟨⟨hS.1, (key b hS.2 hlt).1⟩, (key b hS.2 hlt).2⟩), (htk i t' h).2⟩
 ·rw [List.getElem?_append_right (by omega)] at h
  have e : t = t' := by
   cases hj : i - L.length with
   | zero => rw [hj] at h; simpa using h
   | succ n => rw [hj] at h; simp at h
  subst e
  have hne : ∀ b, R ≤ b → Value.ownBlock v ≠ some b := fun b hb e => by have := hv b e; omega
  exact ⟨ht.mono hsz (fun b hS hlt => ⟨⟨Nat.le_trans hB hS, (key b (hne b hS) hlt).1⟩, (key b (hne b hS) hlt).2⟩), hx⟩
theorem kx_push {OM : ByteArray → Nat → Option (Int × ByteArray × Nat)} {E : ByteArray → Nat → Bool} {s : ByteArray} {k to : Nat} {L : List Tok} {t : Tok} {M : Option (List (Int × ByteArray))} (hM : ∀ m, M = some m → ∃ m', lexM OM E s (2048 - L.length) k = some m' ∧ m = L.map kx ++ m') (hE : E s k = false) (hO : ∀ k' x' j, OM s k = some (k', x', j) → t.kind = k' ∧ t.text = x' ∧ to = j) :
  ∀ m, M = some m → ∃ m', lexM OM E s (2048 - (L.length + 1)) (blanks s to) = some m' ∧ m = (L ++ [t]).map kx ++ m' := by
 intro m hm
 obtain ⟨m', h1, h2⟩ := hM m hm
 cases hf : 2048 - L.length with
 | zero => rw [hf, lexM] at h1; cases h1
 | succ f =>
  rw [hf, lexM, hE] at h1
  simp only [Bool.false_eq_true, if_false] at h1
  cases ho : OM s k with
  | none => rw [ho] at h1; cases h1
  | some q =>
   obtain ⟨k', x', j⟩ := q
   rw [ho] at h1
   obtain ⟨rfl, rfl, rfl⟩ := hO k' x' j ho
   simp only at h1
   cases hl : lexM OM E s f (blanks s to) with
   | none => rw [hl] at h1; cases h1
   | some l =>
    rw [hl] at h1
    simp only [Option.map_some, Option.some.injEq] at h1
    refine ⟨l, ?_, ?_⟩
    ·rw [show 2048 - (L.length + 1) = f by omega]; exact hl
    ·rw [h2, ← h1]; simp [kx]
theorem kx_bad {OM : ByteArray → Nat → Option (Int × ByteArray × Nat)} {E : ByteArray → Nat → Bool} {s : ByteArray} {k : Nat} {L : List Tok} {m' : List (Int × ByteArray)} {P : Prop} (h1 : lexM OM E s (2048 - L.length) k = some m') (hE : E s k = false) (hO : ∀ k' x' j, OM s k = some (k', x', j) → P) : P := by
 cases hf : 2048 - L.length with
 | zero => rw [hf, lexM] at h1; cases h1
 | succ f =>
  rw [hf, lexM, hE] at h1
  simp only [Bool.false_eq_true, if_false] at h1
  cases ho : OM s k with
  | none => rw [ho] at h1; cases h1
  | some q => exact hO _ _ _ ho
/-- what a lexer comes to -/
def LexTo (M : Option (List (Int × ByteArray))) (s : ByteArray) (w : World) (e : Ending) (w' : World) : Prop := Below w.heap.size w w' ∧
 ∃ (A : Option Addr) (c : Nat) (L : List Tok) (er at_ : Int), e = .returned (.tuple #[.slice A L.length c, faultV er at_]) ∧ ToksKept s w.heap.size w' A L ∧ L.length ≤ c ∧ c ≤ 9223372036854775807 ∧ (∀ l, M = some l → er = 0 ∧ L.map kx = l)
theorem info43 : (Try.prog.info? 43).map (fun i => (i.zero, i.size, i.bytes)) = some (some (.agg #[.int .i64 0, .string ⟨#[]⟩, .slice none 0 0, .slice none 0 0, .int .i64 0]), 5, 80) := by kernel_rfl
theorem tokVals_one (t : Tok) : ∀ u ∈ tokVals t, u.oneCell' = true := by
 intro u hu
 simp [tokVals] at hu
 rcases hu with rfl | rfl | rfl | rfl | rfl <;> rfl
end Go.Proofs.Ytollglblkbjgjaa
namespace Go.Proofs.Ytollglblkbjgjaa
open Go.RowKit

def end12 (s : ByteArray) (i : Nat) : Bool := !decide (i < s.size) || startsM s i ⟨#[226, 141, 157]⟩
set_option maxRecDepth 100000 in
set_option maxHeartbeats 16000000 in
theorem lex12_any (s : ByteArray) (w : World) : Calls Try.prog 12 #[.string s] w (LexTo (if s.size ≤ 8192 then lexM oneM12 end12 s 2048 (blanks s 0) else none) s w) := by
 obtain ⟨i0, hi0, hz0, hz1, hz2⟩ := info_parts info43
 obtain ⟨M, hM⟩ : ∃ M, (if s.size ≤ 8192 then lexM oneM12 end12 s 2048 (blanks s 0) else none) = M := ⟨_, rfl⟩
 rw [hM]
 have HM := Lib.hid hM
 clear hM
 have HRES0 := Lib.hid (blk_new w (.cells #[.int .i64 0, .int .i64 0, .int .i64 0] 28))
 have HB0 := Lib.hid ((Below.refl _ w).alloc (Nat.le_refl _) (.cells #[.int .i64 0, .int .i64 0, .int .i64 0] 28))
 by_cases hs : s.size ≤ 8192
 ·have d0 : decide ((8192 : Int) < (s.size : Int)) = false := decide_eq_false (by omega)
  have hMM : M = lexM oneM12 end12 s 2048 (blanks s 0) := by rw [← HM.out, if_pos hs]
  have HMM := Lib.hid hMM
  clear hMM
  have hbl0 := blanks_le (s := s) (i := 0) (Nat.zero_le _)
  have hbc : ∀ W, Calls Try.prog 23 #[.string s, .int .i64 0] W (Says (.int .i64 ((blanks s 0 : Nat) : Int)) W) := fun W => blanks_any s 0 W (by omega) (Nat.zero_le _)
  have HBC := Lib.hid hbc
  clear hbc
  go_enter Try.func12, Try.ntmps12
  go_wp2_with fail
  refine (HBC.out _).mono ?_
  rintro e wq ⟨rfl, rfl⟩
  go_wp2
  go_loopw [4, 5] (fun l q wr => ∃ (k : Nat) (L : List Tok), q = .int .i64 k ∧ k ≤ s.size ∧ L.length ≤ 2048 ∧ Below w.heap.size w wr ∧ wr.heap[w.heap.size]? = some (.cells #[.int .i64 0, .int .i64 0, .int .i64 0] 28 (0, 0)) ∧ wr.ownsRow (w.heap.size + 1) 43 5 l L.length (toksVals L) ∧ (∀ (i : Nat) (t : Tok), L[i]? = some t → TokIn (fun b => w.heap.size + 1 ≤ b ∧ Value.ownBlock l ≠ some b) wr t ∧ t.text.size ≤ s.size) ∧ (∀ m, M = some m → ∃ m', lexM oneM12 end12 s (2048 - L.length) k = some m' ∧ m = L.map kx ++ m')) (fun _ q _ => s.size - (intOf q).toNat)
  case atStart => exact ⟨blanks s 0, [], rfl, hbl0.2, by simp, HB0.out, HRES0.out, World.ownsRow_nil _ _ _ _, fun i t h => by simp at h, fun m hm => ⟨m, by rw [← hm, HMM.out]; rfl, rfl⟩⟩
  case round =>
   obtain ⟨k, L, rfl, hk, hL, hb, hres, hown, htoks, hmm⟩ := hrel
   have HB := Lib.hid hb
   have HRES := Lib.hid hres
   have HOWN := Lib.hid hown
   have HTOKS := Lib.hid htoks
   have HMK := Lib.hid hmm
   have hres0 := blk_lt hres
   clear hb hres hown htoks hmm HB0 HRES0
   have HST := Lib.hid (starts_any s ⟨#[226, 141, 157]⟩ k wr (by omega) (by omega) (by decide))
   by_cases hlt : k < s.size
   ·have d1 : decide ((k : Int) < (s.size : Int)) = true := decide_eq_true (by omega)
    cases hst : startsM s k ⟨#[226, 141, 157]⟩ with
    | true =>
     have HEM := Lib.hid (show end12 s k = true by unfold end12; rw [hst, Bool.or_true])
     rw [hst] at HST
     clear hst
     have g0 := blk_cell HRES.out 0
     have gf0 := blk_frozen HRES.out 0
     have g1 := blk_cell HRES.out 1
     have gf1 := blk_frozen HRES.out 1
     have g2 := blk_cell HRES.out 2
     have gf2 := blk_frozen HRES.out 2
     obtain ⟨lA, lc, rfl, hnc, hcm⟩ := own_slice2 HOWN.out
     go_wp2_with fail
     refine HST.out.mono ?_
     rintro e wq ⟨rfl, hww⟩
     obtain rfl : wr = wq := hww.symm
     go_wp2_with fail
     have hr := three_blk HRES.out (.int .i64 0) (.int .i64 0) (.int .i64 0)
     have q0 := blk_cell hr 0
     have q1 := blk_cell hr 1
     have q2 := blk_cell hr 2
     refine bodyPost_ret (v := .tuple #[.slice lA L.length lc, faultV (0) (0)]) (by simp [results, Try.results12, go_sem, faultV, q0, q1, q2]) rfl ?_
     refine ⟨below_set (below_set (below_set HB.out (Nat.le_refl _) 0 (.int .i64 0)) (Nat.le_refl _) 1 (.int .i64 0)) (Nat.le_refl _) 2 (.int .i64 0), lA, lc, L, 0, 0, rfl, own_kept (R := w.heap.size) (Nat.le_succ _) (S := fun b => w.heap.size + 1 ≤ b) (fun b hb => Nat.le_of_succ_le hb) (own_far (p := ⟨w.heap.size, 2, none⟩) (own_far (p := ⟨w.heap.size, 1, none⟩) (own_far (p := ⟨w.heap.size, 0, none⟩) HOWN.out (by simp) _) (by simp) _) (by simp) _) (fun i t ht => ⟨((((HTOKS.out i t ht).1.mono (T := fun b => w.heap.size + 1 ≤ b) (Nat.le_refl _) (fun b hb _ => ⟨hb.1, rfl⟩)).set (fun b hb => by omega)).set (fun b hb => by omega)).set (fun b hb => by omega), (HTOKS.out i t ht).2⟩) hL, hnc, hcm, fun m hm => ⟨rfl, ?_⟩⟩
     obtain ⟨m', h1, h2⟩ := HMK.out m hm
     cases hf : 2048 - L.length with
     | zero => rw [hf, lexM] at h1; cases h1
     | succ f =>
      rw [hf, lexM, if_pos HEM.out] at h1
      cases h1
      rw [h2, List.append_nil]
    | false =>
     have HEM := Lib.hid (show end12 s k = false by unfold end12; rw [hst, decide_eq_true hlt]; rfl)
     rw [hst] at HST
     clear hst
     by_cases h2048 : L.length = 2048
     ·obtain ⟨lA, lc, rfl, hnc, hcm⟩ := own_slice2 HOWN.out
      have b1 : ((L.length : Int) == 2048) = true := beq_iff_eq.2 (by omega)
      have HL := Lib.hid h2048
      clear h2048
      have g0 := blk_cell HRES.out 0
      have gf0 := blk_frozen HRES.out 0
      have g1 := blk_cell HRES.out 1
      have gf1 := blk_frozen HRES.out 1
      have g2 := blk_cell HRES.out 2
      have gf2 := blk_frozen HRES.out 2
      go_wp2_with fail
      refine HST.out.mono ?_
      rintro e wq ⟨rfl, hww⟩
      obtain rfl : wr = wq := hww.symm
      go_wp2_with fail
      have hr := three_blk HRES.out (.int .i64 14) (.int .i64 (k : Int)) (.int .i64 0)
      have q0 := blk_cell hr 0
      have q1 := blk_cell hr 1
      have q2 := blk_cell hr 2
      refine bodyPost_ret (v := .tuple #[.slice none 0 0, faultV (14) ((k : Int))]) (by simp [results, Try.results12, go_sem, faultV, q0, q1, q2]) rfl ?_
      refine ⟨below_set (below_set (below_set HB.out (Nat.le_refl _) 0 (.int .i64 14)) (Nat.le_refl _) 1 (.int .i64 (k : Int))) (Nat.le_refl _) 2 (.int .i64 0), none, 0, [], 14, _, rfl, ToksKept.nil _ _ _, Nat.le_refl _, by omega, fun m hm => ?_⟩
      obtain ⟨m', h1, h2⟩ := HMK.out m hm
      rw [HL.out, lexM] at h1
      cases h1
     ·obtain ⟨lA, lc, rfl, hnc, hcm⟩ := own_slice2 HOWN.out
      have b1 : ((L.length : Int) == 2048) = false := beq_eq_false_iff_ne.2 (by omega)
      go_wp2_with fail
      refine HST.out.mono ?_
      rintro e wq ⟨rfl, hww⟩
      obtain rfl : wr = wq := hww.symm
      go_wp2_with fail
      refine (one12_any s k wr (by omega) hlt).mono ?_
      rintro e w2 ⟨hb2, v, tk, tx, ta, to, er, at_, rfl, htv, htx, hto, hom⟩
      obtain ⟨t, htk, htx2, rfl, htin⟩ := htv.tok
      have HTIN := Lib.hid htin
      have HTK := Lib.hid (And.intro htk htx2)
      have HTO := Lib.hid hto
      have HOM := Lib.hid hom
      have HTX := Lib.hid htx
      have HB2 := Lib.hid (below_then HB.out HB.out.size hb2)
      have HRES2 := Lib.hid (blk_below HRES.out hb2 (blk_lt HRES.out))
      have HOWN2 := Lib.hid (own_below HOWN.out hb2)
      have hs2 := hb2.size
      have HTOKS2 := Lib.hid (show ∀ (i : Nat) (t : Tok), L[i]? = some t → TokIn (fun b => w.heap.size + 1 ≤ b ∧ Value.ownBlock (.slice lA L.length lc) ≠ some b) w2 t ∧ t.text.size ≤ s.size from fun i t ht => ⟨(HTOKS.out i t ht).1.below hb2, (HTOKS.out i t ht).2⟩)
      have hown0 : ∀ b, Value.ownBlock (.slice lA L.length lc) = some b → b < wr.heap.size := fun b hb => (HOWN.out.lt b hb).2
      have HOWN0 := Lib.hid hown0
      have hsB := HB.out.size
      clear htv htin htk htx2 hto hom htx hb2 hown0 HB HRES HOWN HTOKS
      unfold faultV
      simp only [tokVals]
      by_cases her : er = 0
      ·have b2 : (er == 0) = true := beq_iff_eq.2 her
       have HTO2 := Lib.hid (show k < to ∧ to ≤ s.size by rcases HTO.out with h | h; exact absurd her h; exact h.2)
       have hto := HTO2.out
       have HER := Lib.hid her
       have hres2 := blk_lt HRES2.out
       clear her
       go_wp2_with
        (at_builtin; refine wpList_append_lies _ rfl (.tmp 41) (.tmp 43) 25 rfl (w.heap.size + 1) 43 i0 _ 5 80 Try.underlying25 hi0 hz0 hz1 hz2 rfl (by omega) (.slice lA L.length lc) L.length (toksVals L) rfl (((HOWN2.out.alloc (.cells #[.int .i64 t.kind, .string t.text, .slice t.lit.sA t.lit.sn t.lit.sc, .slice t.lit.cA t.lit.cn t.lit.cc, .int .i64 t.at_] 43)).alloc (.cells #[.int .i64 er, .int .i64 at_, .int .i64 0] 28)).alloc (.cells #[.int .i64 t.kind, .string t.text, .slice t.lit.sA t.lit.sn t.lit.sc, .slice t.lit.cA t.lit.cn t.lit.cc, .int .i64 t.at_] 43))
            ⟨w2.heap.size + 1 + 1, 0, none⟩ 1 1 (tokVals t) rfl rfl (World.news_of_block (cs := (tokVals t).toArray) (t := 43) (fr := (0, 0)) (by have := heap_alloc_new ((w2.alloc (.cells #[.int .i64 t.kind, .string t.text, .slice t.lit.sA t.lit.sn t.lit.sc, .slice t.lit.cA t.lit.cn t.lit.cc, .int .i64 t.at_] 43)).alloc (.cells #[.int .i64 er, .int .i64 at_, .int .i64 0] 28)) (.cells #[.int .i64 t.kind, .string t.text, .slice t.lit.sA t.lit.sn t.lit.sc, .slice t.lit.cA t.lit.cn t.lit.cc, .int .i64 t.at_] 43); simpa [tokVals] using this)) (tokVals_one t) (by omega) (by unfold maxLen; omega) (by omega) (by simp; omega) (w2.heap.size + 1 + 1 + 1) (by simp) ?_; intro gg cap w5 hown5 hgrow hat5 hlt5; have HOWN5 := Lib.hid hown5; have HGR := Lib.hid hgrow; have HAT5 := Lib.hid hat5)
       refine (blanks_any s to _ (by omega) HTO2.out.2).mono ?_
       rintro e wq ⟨rfl, hww⟩
       obtain rfl : w5 = wq := hww.symm
       have hbl := blanks_le (s := s) (i := to) HTO2.out.2
       have hal : Below w2.heap.size w2 ((((w2.alloc (.cells #[.int .i64 t.kind, .string t.text, .slice t.lit.sA t.lit.sn t.lit.sc, .slice t.lit.cA t.lit.cn t.lit.cc, .int .i64 t.at_] 43)).alloc (.cells #[.int .i64 er, .int .i64 at_, .int .i64 0] 28)).alloc (.cells #[.int .i64 t.kind, .string t.text, .slice t.lit.sA t.lit.sn t.lit.sc, .slice t.lit.cA t.lit.cn t.lit.cc, .int .i64 t.at_] 43))) := ((((Below.refl _ w2).alloc (Nat.le_refl _) _).alloc (by simp) _).alloc (by simp; omega) _)
       have HAL := Lib.hid hal
       clear hal
       go_wp2_with fail
       go_roundw
       case rel =>
        refine ⟨blanks s to, L ++ [t], rfl, hbl.2, ?_, ?_, ?_, ?_, ?_, ?_⟩
        ·simp; omega
        ·exact (below_then HB2.out HB2.out.size HAL.out).grown HGR.out (by have := HB2.out.size; simp; omega) (fun g hg => by have := (HOWN2.out.lt g hg).1; omega)
        ·exact blk_grown (blk_below HRES2.out HAL.out hres2) HGR.out (own_ne HOWN2.out (by omega))
        ·rw [toksVals_snoc]; simpa using HOWN5.out
        ·have := tok_push (n := L.length + 1) (cap := cap) HTOKS2.out HOWN0.out HTIN.out (by rw [HTK.out.2]; exact HTX.out) (by omega) HAL.out HGR.out HAT5.out (by omega)
         exact this
        ·have := kx_push (t := t) (to := to) HMK.out HEM.out (fun k' x' j h => by obtain ⟨_, h2, h3, h4⟩ := HOM.out k' x' j h; exact ⟨HTK.out.1.trans h2, HTK.out.2.trans h3, h4⟩)
         simpa using this
       case measure => simp [intOf]; omega
      ·have b2 : (er == 0) = false := beq_eq_false_iff_ne.2 her
       have HER := Lib.hid her
       have hres2 := blk_lt HRES2.out
       clear her
       go_wp2
       obtain ⟨W, hW⟩ : ∃ W, (w2.alloc (.cells #[.int .i64 t.kind, .string t.text, .slice t.lit.sA t.lit.sn t.lit.sc, .slice t.lit.cA t.lit.cn t.lit.cc, .int .i64 t.at_] 43)).alloc (.cells #[.int .i64 er, .int .i64 at_, .int .i64 0] 28) = W := ⟨_, rfl⟩
       have hbW : Below w2.heap.size w2 W := by rw [← hW]; exact ((Below.refl _ w2).alloc (Nat.le_refl _) _).alloc (by simp) _
       have hfW : W.heap[w2.heap.size + 1]? = some (.cells #[.int .i64 er, .int .i64 at_, .int .i64 0] 28 (0, 0)) := by
        have := blk_new (w2.alloc (.cells #[.int .i64 t.kind, .string t.text, .slice t.lit.sA t.lit.sn t.lit.sc, .slice t.lit.cA t.lit.cn t.lit.cc, .int .i64 t.at_] 43)) (.cells #[.int .i64 er, .int .i64 at_, .int .i64 0] 28)
        rw [hW] at this
        simpa using this
       rw [hW]
       have HRESW := Lib.hid (blk_below HRES2.out hbW hres2)
       have HBW := Lib.hid (below_then HB2.out HB2.out.size hbW)
       have HFW := Lib.hid hfW
       clear hbW hfW hW
       have g0 := blk_cell HRESW.out 0
       have gf0 := blk_frozen HRESW.out 0
       have g1 := blk_cell HRESW.out 1
       have gf1 := blk_frozen HRESW.out 1
       have g2 := blk_cell HRESW.out 2
       have gf2 := blk_frozen HRESW.out 2
       have f0 := blk_cell HFW.out 0
       have ff0 := blk_frozen HFW.out 0
       have f1 := blk_cell HFW.out 1
       have ff1 := blk_frozen HFW.out 1
       have f2 := blk_cell HFW.out 2
       have ff2 := blk_frozen HFW.out 2
       go_region
       all_goals
        go_wp2
        have hr := blk_drew (three_blk HRESW.out (.int .i64 er) (.int .i64 at_) (.int .i64 0))
        have q0 := blk_cell hr 0
        have q1 := blk_cell hr 1
        have q2 := blk_cell hr 2
        refine bodyPost_ret (v := .tuple #[.slice none 0 0, faultV (er) (at_)]) (by simp [results, Try.results12, go_sem, faultV, q0, q1, q2]) rfl ?_
        refine ⟨(below_set (below_set (below_set HBW.out (Nat.le_refl _) 0 (.int .i64 er)) (Nat.le_refl _) 1 (.int .i64 at_)) (Nat.le_refl _) 2 (.int .i64 0)).drew, none, 0, [], er, at_, rfl, ToksKept.nil _ _ _, Nat.le_refl _, by omega, fun m hm => ?_⟩
        obtain ⟨m', h1, h2⟩ := HMK.out m hm
        exact absurd (kx_bad (P := er = 0) h1 HEM.out (fun k' x' j h => (HOM.out k' x' j h).1)) HER.out
   ·have d1 : decide ((k : Int) < (s.size : Int)) = false := decide_eq_false (by omega)
    have HEM := Lib.hid (show end12 s k = true by unfold end12; rw [decide_eq_false hlt]; rfl)
    have g0 := blk_cell HRES.out 0
    have gf0 := blk_frozen HRES.out 0
    have g1 := blk_cell HRES.out 1
    have gf1 := blk_frozen HRES.out 1
    have g2 := blk_cell HRES.out 2
    have gf2 := blk_frozen HRES.out 2
    obtain ⟨lA, lc, rfl, hnc, hcm⟩ := own_slice2 HOWN.out
    go_wp2_with fail
    have hr := three_blk HRES.out (.int .i64 0) (.int .i64 0) (.int .i64 0)
    have q0 := blk_cell hr 0
    have q1 := blk_cell hr 1
    have q2 := blk_cell hr 2
    refine bodyPost_ret (v := .tuple #[.slice lA L.length lc, faultV (0) (0)]) (by simp [results, Try.results12, go_sem, faultV, q0, q1, q2]) rfl ?_
    refine ⟨below_set (below_set (below_set HB.out (Nat.le_refl _) 0 (.int .i64 0)) (Nat.le_refl _) 1 (.int .i64 0)) (Nat.le_refl _) 2 (.int .i64 0), lA, lc, L, 0, 0, rfl, own_kept (R := w.heap.size) (Nat.le_succ _) (S := fun b => w.heap.size + 1 ≤ b) (fun b hb => Nat.le_of_succ_le hb) (own_far (p := ⟨w.heap.size, 2, none⟩) (own_far (p := ⟨w.heap.size, 1, none⟩) (own_far (p := ⟨w.heap.size, 0, none⟩) HOWN.out (by simp) _) (by simp) _) (by simp) _) (fun i t ht => ⟨((((HTOKS.out i t ht).1.mono (T := fun b => w.heap.size + 1 ≤ b) (Nat.le_refl _) (fun b hb _ => ⟨hb.1, rfl⟩)).set (fun b hb => by omega)).set (fun b hb => by omega)).set (fun b hb => by omega), (HTOKS.out i t ht).2⟩) hL, hnc, hcm, fun m hm => ⟨rfl, ?_⟩⟩
    obtain ⟨m', h1, h2⟩ := HMK.out m hm
    cases hf : 2048 - L.length with
    | zero => rw [hf, lexM] at h1; cases h1
    | succ f =>
     rw [hf, lexM, if_pos HEM.out] at h1
     cases h1
     rw [h2, List.append_nil]
 ·have d0 : decide ((8192 : Int) < (s.size : Int)) = true := decide_eq_true (by omega)
  have hMM : M = none := by rw [← HM.out, if_neg hs]
  subst hMM
  go_enter Try.func12, Try.ntmps12
  go_wp2
  have hr := blk_new w (.cells #[.int .i64 14, .int .i64 0, .int .i64 0] 28)
  have q0 := blk_cell hr 0
  have q1 := blk_cell hr 1
  have q2 := blk_cell hr 2
  refine bodyPost_ret (v := .tuple #[.slice none 0 0, faultV 14 0]) (by simp [results, Try.results12, go_sem, faultV]) rfl ?_
  exact ⟨(Below.refl _ w).alloc (Nat.le_refl _) (.cells #[.int .i64 14, .int .i64 0, .int .i64 0] 28), none, 0, [], 14, 0, rfl, ToksKept.nil _ _ _, Nat.le_refl _, by omega, fun l h => by cases h⟩
end Go.Proofs.Ytollglblkbjgjaa
