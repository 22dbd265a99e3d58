/- Brackets that pair; what the parser's functions say of the words that they read. Conditions: none beyond each theorem's own. -/
import Derived.Test.YtollglblkbjgjaaGj
import Derived.Test.YtollglblkbjgjaaGkM
namespace Go.Proofs.Ytollglblkbjgjaa
open Go.RowKit

/-- from a word to a word brackets pair -/
inductive Bal (L : List Tok) : Nat → Nat → Prop where
 | nil (i : Nat) : Bal L i i
 | word {i j : Nat} (t : Tok) : L[i]? = some t → t.kind ≠ 5 → t.kind ≠ 6 → Bal L (i + 1) j → Bal L i j
 | brack {i k j : Nat} (t u : Tok) : L[i]? = some t → t.kind = 5 → Bal L (i + 1) k → L[k]? = some u → u.kind = 6 → Bal L (k + 1) j → Bal L i j
theorem Bal.trans {L : List Tok} {i j k : Nat} (h : Bal L i j) (g : Bal L j k) : Bal L i k := by
 induction h with
 | nil i => exact g
 | word t h1 h2 h3 _ ih => exact .word t h1 h2 h3 (ih g)
 | brack t u h1 h2 h3 h4 h5 _ _ ih => exact .brack t u h1 h2 h3 h4 h5 (ih g)
theorem Bal.le {L : List Tok} {i j : Nat} (h : Bal L i j) : i ≤ j := by
 induction h with
 | nil i => exact Nat.le_refl _
 | word t h1 h2 h3 _ ih => omega
 | brack t u h1 h2 h3 h4 h5 _ ih1 ih2 => omega
theorem Bal.one {L : List Tok} {i : Nat} {t : Tok} (h : L[i]? = some t) (h5 : t.kind ≠ 5) (h6 : t.kind ≠ 6) : Bal L i (i + 1) := .word t h h5 h6 (.nil _)
theorem drop_tok {L : List Tok} {i : Nat} {t : Tok} (h : L[i]? = some t) : L.drop i = t :: L.drop (i + 1) := by
 obtain ⟨hlt, rfl⟩ := List.getElem?_eq_some_iff.1 h
 exact List.drop_eq_getElem_cons hlt
theorem map_map_add (o : Option Nat) (a b : Nat) : (o.map (· + a)).map (· + b) = o.map (· + (a + b)) := by
 cases o with
 | none => rfl
 | some x => simp only [Option.map_some, Option.some.injEq]; omega
theorem shutL_bal {L : List Tok} {i j : Nat} (h : Bal L i j) : ∀ n : Int, 1 ≤ n → shutL (L.drop i) n = (shutL (L.drop j) n).map (· + (j - i)) := by
 induction h with
 | nil i => intro n hn; simp
 | word t h1 h2 h3 hb ih =>
  intro n hn
  have hle := hb.le
  rw [drop_tok h1, shutL, if_neg h2, if_neg h3, ih n hn, map_map_add]
  congr 1
  funext x
  omega
 | brack t u h1 h2 hb1 h4 h5 hb2 ih1 ih2 =>
  intro n hn
  have hle1 := hb1.le
  have hle2 := hb2.le
  rw [drop_tok h1, shutL, if_pos h2, ih1 (n + 1) (by omega), drop_tok h4, shutL, if_neg (by omega), if_pos h5, if_neg (by omega), show n + 1 - 1 = n by omega, ih2 n hn, map_map_add, map_map_add, map_map_add]
  congr 1
  funext x
  omega
/-- a bracket that opens, what pairs, one that closes: so it shuts there -/
theorem shut_bal {E : Env} {i k : Nat} {t u : Tok} (h1 : E.L[i]? = some t) (h2 : t.kind = 5) (h3 : Bal E.L (i + 1) k) (h4 : E.L[k]? = some u) (h5 : u.kind = 6) : E.shut i = some k := by
 have hle := h3.le
 unfold Env.shut
 rw [drop_tok h1, shutL, if_pos h2, shutL_bal h3 (0 + 1) (by omega), drop_tok h4, shutL, if_neg (by omega), if_pos h5, if_pos (by omega)]
 simp only [Option.map_some, Option.some.injEq]
 omega
theorem Env.is_kind {E : Env} {i : Nat} {k : Int} {x : ByteArray} (h : E.is i k x = true) : ∃ t, E.L[i]? = some t ∧ t.kind = k := by
 have hlt := Env.is_lt h
 refine ⟨_, List.getElem?_eq_getElem hlt, ?_⟩
 rw [Env.is_some (List.getElem?_eq_getElem hlt), Bool.and_eq_true] at h
 exact beq_iff_eq.1 h.1
theorem Env.sign_kind {E : Env} {i : Nat} {l : List ByteArray} (h : E.sign i l = true) : ∃ t, E.L[i]? = some t ∧ t.kind = 4 := by
 have hlt := Env.sign_lt h
 refine ⟨_, List.getElem?_eq_getElem hlt, ?_⟩
 rw [Env.sign_some (List.getElem?_eq_getElem hlt), Bool.and_eq_true] at h
 exact beq_iff_eq.1 h.1
theorem Env.pow_kind {E : Env} {i : Nat} {n : Int} (h : E.pow i = some n) : ∃ t u, E.L[i]? = some t ∧ t.kind = 4 ∧ E.L[i + 1]? = some u ∧ u.kind = 1 := by
 unfold Env.pow at h
 split at h
 ·rename_i hi
  obtain ⟨t, h1, h2⟩ := Env.is_kind hi
  split at h
  ·cases h
  ·rename_i u hu
   split at h
   ·rename_i hk
    exact ⟨t, u, h1, h2, hu, hk⟩
   ·cases h
 ·cases h

/-- a part's literal is one of the words', or none -/
def LitOK (E : Env) (k : Nd) : Prop := k.lit.cn = 0 ∨ ∃ (i : Nat) (t : Tok), E.L[i]? = some t ∧ k.lit = t.lit
theorem LitOK.read {E : Env} {k : Nd} {w : World} (h : LitOK E k) (hE : EnvAt w E) : LitRead w k.lit k.lit.c0 k.lit.n0 := by
 rcases h with h | ⟨i, t, h1, h2⟩
 ·exact fun h0 => by omega
 ·obtain ⟨t', b, off, h3, _, h5⟩ := hE.tok (List.getElem?_eq_some_iff.1 h1).1
  rw [h1] at h3
  cases h3
  rw [h2]
  exact h5.lit
/-- a function that stands ahead of a sign behind it has it as its part -/
def FnOK (k : Nd) : Prop := k.kind = 24 → 0 < k.kids.length
/-- what an expression's reading gives -/
def ExprGood (E : Env) (bp : Nat) (R : Res Nd) (i : Nat) (d n : Int) (w : World) (e : Ending) (w' : World) : Prop := ∃ (j : Nat) (v : Value) (k : Nd), e = .returned v ∧ PM E bp j d n w w' ∧ NdAt (w.heap.size ≤ ·) w' v k ∧ i < j ∧ j ≤ E.L.length ∧ Bal E.L i j ∧ k.size ≤ 2 * (j - i) ∧ LitOK E k ∧ R = .ok k j
def ExprPost (E : Env) (bp : Nat) (R : Res Nd) (i : Nat) (d n : Int) (w : World) (e : Ending) (w' : World) : Prop := Threw E bp R w e w' ∨ ExprGood E bp R i d n w e w'
/-- what an operand's reading gives -/
def OpGood (E : Env) (bp : Nat) (R : Res Nd) (i : Nat) (d n : Int) (w : World) (e : Ending) (w' : World) : Prop := ∃ (j : Nat) (v : Value) (k : Nd), e = .returned v ∧ PM E bp j d n w w' ∧ NdAt (w.heap.size ≤ ·) w' v k ∧ i < j ∧ j ≤ E.L.length ∧ Bal E.L i j ∧ k.size + 1 ≤ 2 * (j - i) ∧ LitOK E k ∧ R = .ok k j
def OpPost (E : Env) (bp : Nat) (R : Res Nd) (i : Nat) (d n : Int) (w : World) (e : Ending) (w' : World) : Prop := Threw E bp R w e w' ∨ OpGood E bp R i d n w e w'
/-- what a function's reading gives, that ends at a word -/
def FunGood (E : Env) (bp : Nat) (R : Res Nd) (i j : Nat) (d n : Int) (w : World) (e : Ending) (w' : World) : Prop := ∃ (v : Value) (k : Nd), e = .returned v ∧ PM E bp j d n w w' ∧ NdAt (w.heap.size ≤ ·) w' v k ∧ Bal E.L i j ∧ k.size + 1 ≤ 2 * (j - i) ∧ FnOK k ∧ R = .ok k j
def FunPost (E : Env) (bp : Nat) (R : Res Nd) (i j : Nat) (d n : Int) (w : World) (e : Ending) (w' : World) : Prop := Threw E bp R w e w' ∨ FunGood E bp R i j d n w e w'
def ExprAt (E : Env) (bp : Nat) (d : Int) : Prop := ∀ (i : Nat) (n : Int) (w : World), Sits E bp w → i ≤ E.L.length → 0 ≤ n → n ≤ 76 + d → w.heap[bp]? = some (pcell E i d n) → Calls Try.prog 20 #[.pointer (some ⟨bp, 0, none⟩)] w (ExprPost E bp (E.X d i (decide (0 < n))) i d n w)
def FunAt (E : Env) (bp : Nat) (d : Int) : Prop := ∀ (f i : Nat) (b : Bool) (j : Nat) (n : Int) (w : World), E.skipF f i b = some j → Sits E bp w → i ≤ E.L.length → 0 ≤ n → n ≤ 75 + d → w.heap[bp]? = some (pcell E i d n) → Calls Try.prog 33 #[.pointer (some ⟨bp, 0, none⟩), .bool b] w (FunPost E bp (E.F d i b (decide (0 < n))) i j d n w)
theorem PM.lt {E : Env} {bp p : Nat} {d n : Int} {w w' : World} (h : PM E bp p d n w w') : bp < w'.heap.size := blk_lt h.2
/-- a block that is not the parser's stays -/
theorem blk_pm {E : Env} {bp p : Nat} {d n : Int} {w w' : World} {b : Nat} {o : Obj} (h : w.heap[b]? = some o) (hm : PM E bp p d n w w') (hne : b ≠ bp) : w'.heap[b]? = some o := blk_grown h hm.1 (by intro e; cases e; exact hne rfl)
theorem NdAt.pmS {E : Env} {bp p : Nat} {d n : Int} {w w' : World} {S : Nat → Prop} {v : Value} {k : Nd} (h : NdAt S w v k) (hm : PM E bp p d n w w') (hS : ∀ b, S b → b ≠ bp) : NdAt S w' v k :=
 h.mono hm.1.size (fun b hSb hlt => ⟨hSb, hm.1.block b hlt (by intro e; cases e; exact hS _ hSb rfl)⟩)
theorem pm_seven {E : Env} {bp p : Nat} {d n : Int} {w w' : World} {B : Nat} (h : PM E bp p d n w w') (hB : w.heap.size ≤ B) (hg : bp < w.heap.size) (a0 a1 a2 a3 a4 a5 a6 : Value) : PM E bp p d n w (sevenSet w' B a0 a1 a2 a3 a4 a5 a6) :=
 pm_new (pm_new (pm_new (pm_new (pm_new (pm_new (pm_new h hB hg 0 a0) hB hg 1 a1) hB hg 2 a2) hB hg 3 a3) hB hg 4 a4) hB hg 5 a5) hB hg 6 a6
/-- a part with its row of parts made anew, the result's variable laid ahead of it -/
theorem nd_row {S : Nat → Prop} {w9 : World} {B0 : Nat} (hB : ∀ b, S b → b ≠ B0) {vs : List Value} {ks : List Nd} (hk : NdsAt S w9 vs ks) (hS : S w9.heap.size) (x0 x1 x2 x3 x4 x5 x6 : Value) (K o : Int) (nm : ByteArray) (l : Lt) (a : Int) :
  NdAt S ((sevenSet w9 B0 x0 x1 x2 x3 x4 x5 x6).alloc (.cells vs.toArray 39)) (.agg #[.int .i64 K, .int .i64 o, .string nm, .slice l.sA l.sn l.sc, .slice l.cA l.cn l.cc, .slice (some ⟨w9.heap.size, 0, none⟩) ks.length ks.length, .int .i64 a]) (.mk K o nm l ks a) := by
 simp only [NdAt]
 have hz := seven_size w9 B0 x0 x1 x2 x3 x4 x5 x6
 refine ⟨some ⟨w9.heap.size, 0, none⟩, ks.length, vs, rfl, Nat.le_refl _, ?_, ?_⟩
 ·have := rowIn_new S (sevenSet w9 B0 x0 x1 x2 x3 x4 x5 x6) vs 39 (by rw [hz]; exact hS)
  rw [hz] at this
  exact this
 ·refine hk.mono (by simp [hz]) (fun b hSb hlt => ⟨hSb, ?_⟩)
  rw [Below.heap_alloc _ _ b (by rw [hz]; exact hlt), seven_heap _ _ _ (hB b hSb)]
theorem nds_one {S : Nat → Prop} {w : World} {u : List Value} {k : Nd} (h : NdAt S w (.agg u.toArray) k) (hu : u.length = 7) : NdsAt S w u [k] := by
 simp only [NdsAt]
 exact ⟨u, [], hu, by simp, h, rfl⟩
end Go.Proofs.Ytollglblkbjgjaa
