/- Contract of alex.Lex: a text's words, or what is wrong with it. Conditions: the library's variable holds an int. -/
import Derived.Test.YtiboikbccmfedaaAo
import Derived.Test.YtiboikbccmfedaaModel3
import Derived.Deep.RegionHeld3
namespace Go.Proofs.Ytiboikbccmfedaa
open Go.RowKit

def faultVal (e : Int) (j : Int) : Value := .agg #[.int .i64 e, .int .i64 j, .int .i64 0]
/-- a word as it lies -/
def tokCells (t : Kx.Tok) (a0 a1 : Value) : List Value := [.int .i64 t.kind, .string (strOfNums t.text), a0, a1, .int .i64 (t.at_ : Int)]
/-- words as they lie, one behind the other -/
def ToksAt (S : Nat → Prop) (w : World) : List Value → List Kx.Tok → Prop
  | vs, [] => vs = []
  | vs, t :: ts => ∃ a0 a1 rest, vs = tokCells t a0 a1 ++ rest ∧ LitAt S w (.agg #[a0, a1]) t.lit ∧ ToksAt S w rest ts
theorem ToksAt.length {S : Nat → Prop} {w : World} : ∀ {vs : List Value} {ts : List Kx.Tok}, ToksAt S w vs ts → vs.length = ts.length * 5
  | _, [], h => by rw [show _ = [] from h]; rfl
  | _, t :: ts, h => by
    obtain ⟨a0, a1, rest, rfl, _, h3⟩ := h
    rw [List.length_append, h3.length, List.length_cons]
    simp only [tokCells, List.length_cons, List.length_nil]
    omega
theorem ToksAt.mono {S T : Nat → Prop} {w w' : World} (hs : w.heap.size ≤ w'.heap.size) (hST : ∀ b, S b → b < w.heap.size → T b ∧ w'.heap[b]? = w.heap[b]?) : ∀ {vs : List Value} {ts : List Kx.Tok}, ToksAt S w vs ts → ToksAt T w' vs ts
  | _, [], h => h
  | _, t :: ts, h => by
    obtain ⟨a0, a1, rest, rfl, h2, h3⟩ := h
    exact ⟨a0, a1, rest, rfl, h2.mono hs hST, h3.mono hs hST⟩
theorem ToksAt.snoc {S : Nat → Prop} {w : World} {t : Kx.Tok} {a0 a1 : Value} (ht : LitAt S w (.agg #[a0, a1]) t.lit) : ∀ {vs : List Value} {ts : List Kx.Tok}, ToksAt S w vs ts → ToksAt S w (vs ++ tokCells t a0 a1) (ts ++ [t])
  | _, [], h => by
    rw [show _ = [] from h]
    exact ⟨a0, a1, [], rfl, ht, rfl⟩
  | _, u :: ts, h => by
    obtain ⟨b0, b1, rest, rfl, h2, h3⟩ := h
    exact ⟨b0, b1, rest ++ tokCells t a0 a1, by rw [List.append_assoc], h2, h3.snoc ht⟩
theorem tok_one (t : Kx.Tok) {S : Nat → Prop} {w : World} {a0 a1 : Value} (ht : LitAt S w (.agg #[a0, a1]) t.lit) : ∀ u ∈ tokCells t a0 a1, u.oneCell' = true := by
  obtain ⟨A, n, c, B, m, d, h, _⟩ := ht
  cases h
  intro u hu
  simp [tokCells] at hu
  rcases hu with rfl | rfl | rfl | rfl | rfl <;> rfl

def LexIs (R : Kx.Res) (w : World) (e : Ending) (w' : World) : Prop :=
  match R with
  | .bad er j => e = .returned (.tuple #[.slice none 0 0, faultVal er (j : Int)]) ∧ Below w.heap.size w w'
  | .good ts => ∃ A c vs, e = .returned (.tuple #[.slice A ts.length c, faultVal 0 0]) ∧ RowIn (w.heap.size ≤ ·) w' A vs ∧ ToksAt (w.heap.size ≤ ·) w' vs ts ∧ ts.length ≤ 8192 ∧ ts.length ≤ c ∧ Below w.heap.size w w'
theorem three_cells {w : World} {B : Nat} {p0 p1 p2 : Value} (h1 : w.heap[B]? = some (.cells #[p0, p1, p2] 25 (0, 0))) (v0 v1 v2 : Value) :
    (((w.setCell ⟨B, 0, none⟩ v0).setCell ⟨B, 1, none⟩ v1).setCell ⟨B, 2, none⟩ v2).cell? ⟨B, 0, none⟩ = some v0 ∧ (((w.setCell ⟨B, 0, none⟩ v0).setCell ⟨B, 1, none⟩ v1).setCell ⟨B, 2, none⟩ v2).cell? ⟨B, 1, none⟩ = some v1 ∧ (((w.setCell ⟨B, 0, none⟩ v0).setCell ⟨B, 1, none⟩ v1).setCell ⟨B, 2, none⟩ v2).cell? ⟨B, 2, none⟩ = some v2 := by
  have g2 := blk_set (blk_set (blk_set h1 0 v0) 1 v1) 2 v2
  refine ⟨(blk_cell g2 0).trans ?_, (blk_cell g2 1).trans ?_, (blk_cell g2 2).trans ?_⟩ <;> simp
theorem three_heap (w : World) (B b : Nat) (hb : b ≠ B) (v0 v1 v2 : Value) : (((w.setCell ⟨B, 0, none⟩ v0).setCell ⟨B, 1, none⟩ v1).setCell ⟨B, 2, none⟩ v2).heap[b]? = w.heap[b]? :=
  (Below.heap_setCell _ _ _ b hb).trans ((Below.heap_setCell _ _ _ b hb).trans (Below.heap_setCell _ _ _ b hb))
theorem three_size (w : World) (B : Nat) (v0 v1 v2 : Value) : (((w.setCell ⟨B, 0, none⟩ v0).setCell ⟨B, 1, none⟩ v1).setCell ⟨B, 2, none⟩ v2).heap.size = w.heap.size := by simp [World.setCell]
theorem three_below {w w1 : World} {B : Nat} (hB : w.heap.size = B) (hbel : Below B w w1) (v0 v1 v2 : Value) : Below w.heap.size w (((w1.setCell ⟨B, 0, none⟩ v0).setCell ⟨B, 1, none⟩ v1).setCell ⟨B, 2, none⟩ v2) := by
  subst hB
  exact ((hbel.setCell (p := ⟨w.heap.size, 0, none⟩) (by simp) _).setCell (p := ⟨w.heap.size, 1, none⟩) (by simp) _).setCell (p := ⟨w.heap.size, 2, none⟩) (by simp) _


/-- what the loop knows at its end -/
theorem lex_end {w w1 : World} {B g vc : Nat} {vA : Option Addr} {vs : List Value} {ts : List Kx.Tok} (hB : w.heap.size = B) (hgB : B < g) (hbel : Below B w w1) (hown : w1.ownsRow (g + 1) 34 5 (.slice vA ts.length vc) ts.length vs) (htk : ToksAt (fun b => g < b ∧ Value.ownBlock (.slice vA ts.length vc) ≠ some b) w1 vs ts) (hn : ts.length ≤ 8192) (hc : ts.length ≤ vc) (v0 v1 v2 : Value) :
    RowIn (w.heap.size ≤ ·) (((w1.setCell ⟨B, 0, none⟩ v0).setCell ⟨B, 1, none⟩ v1).setCell ⟨B, 2, none⟩ v2) vA vs ∧ ToksAt (w.heap.size ≤ ·) (((w1.setCell ⟨B, 0, none⟩ v0).setCell ⟨B, 1, none⟩ v1).setCell ⟨B, 2, none⟩ v2) vs ts ∧ ts.length ≤ 8192 ∧ ts.length ≤ vc ∧ Below w.heap.size w (((w1.setCell ⟨B, 0, none⟩ v0).setCell ⟨B, 1, none⟩ v1).setCell ⟨B, 2, none⟩ v2) := by
  subst hB
  refine ⟨(rowIn_own hown).mono (by rw [three_size]; exact Nat.le_refl _) (fun b (hS : g + 1 ≤ b) _ => ⟨Nat.le_trans (by omega) hS, three_heap _ _ _ (by omega) _ _ _⟩), htk.mono (by rw [three_size]; exact Nat.le_refl _) (fun b hS _ => ⟨Nat.le_trans (Nat.le_of_lt hgB) (Nat.le_of_lt hS.1), three_heap _ _ _ (by omega) _ _ _⟩), hn, hc, ?_⟩
  exact ((hbel.setCell (p := ⟨w.heap.size, 0, none⟩) (by simp) _).setCell (p := ⟨w.heap.size, 1, none⟩) (by simp) _).setCell (p := ⟨w.heap.size, 2, none⟩) (by simp) _

/-- what the loop knows behind one more word, ahead of its slice's store -/
theorem lex_push {w w1 w2 W4 w5 : World} {B g gg n vc cap je H : Nat} {er fq : Int} {vA : Option Addr} {vs : List Value} {s : ByteArray} (hB : w.heap.size = B) (hgB : B < g) (hbel : Below B w w1) (hR : w1.heap[B]? = some (.cells #[.int .i64 0, .int .i64 0, .int .i64 0] 25 (0, 0)))
    (hown1 : w1.ownsRow (g + 1) 34 5 (.slice vA n vc) n vs) (hg : g < w1.heap.size) (hm2 : Moves g s (.slice vA n vc) je er fq w1 w2)
    (hal : Below w2.heap.size w2 W4) (hgrow : W4.grownBy w5 (Value.ownBlock (.slice vA n vc))) (hH : H = W4.heap.size) (hat : Value.ownBlock (.slice vA n vc) = some gg ∨ gg = H) :
    Below B w w5 ∧ w5.heap[g]? = some (acell s (.slice vA n vc) je er fq) ∧ w5.heap[B]? = some (.cells #[.int .i64 0, .int .i64 0, .int .i64 0] 25 (0, 0)) ∧ ∀ (ts : List Kx.Tok) (t : Kx.Tok) (a0 a1 : Value), LitAt (w1.heap.size ≤ ·) w2 (.agg #[a0, a1]) t.lit → ToksAt (fun b => g < b ∧ Value.ownBlock (.slice vA n vc) ≠ some b) w1 vs ts → ToksAt (fun b => g < b ∧ Value.ownBlock (.slice (some ⟨gg, 0, none⟩) (n + 1) cap) ≠ some b) w5 (vs ++ tokCells t a0 a1) (ts ++ [t]) := by
  subst hB hH
  have hob : ∀ x, Value.ownBlock (.slice vA n vc) = some x → g + 1 ≤ x ∧ x < w1.heap.size := fun x hx => hown1.lt x hx
  have h12 := hm2.1.size
  have h24 := hal.size
  have h45 := hgrow.size
  have hbel2 : Below w.heap.size w w2 := hbel.grown hm2.1 hbel.size (fun r hr => by cases hr; omega)
  have hbel4 : Below w.heap.size w W4 := below_then hbel2 hbel2.size hal
  have hkeep : ∀ b, b < w2.heap.size → Value.ownBlock (.slice vA n vc) ≠ some b → w5.heap[b]? = w2.heap[b]? := fun b hb hne => (hgrow.block b (by omega) (fun e => hne e.symm)).trans (hal.block b hb)
  have hgg : ∀ b, b < w2.heap.size → Value.ownBlock (.slice vA n vc) ≠ some b → gg ≠ b := by
    intro b hb hne e
    subst e
    rcases hat with h | h
    · exact hne h
    · omega
  refine ⟨hbel4.grown hgrow hbel4.size (fun x hx => by have := hob x hx; omega), ?_, ?_, fun ts t a0 a1 hlit htk => ?_⟩
  · exact (hkeep g (by omega) (fun e => by have := hob g e; omega)).trans hm2.2
  · exact (hkeep w.heap.size (by have := hbel.size; omega) (fun e => by have := hob _ e; omega)).trans (blk_grown hR hm2.1 (by intro e; cases e; omega))
  · refine ToksAt.snoc (hlit.mono (by omega) fun b (hS : w1.heap.size ≤ b) hb => ?_) (htk.mono (by omega) fun b hS hb => ?_)
    · have hne : Value.ownBlock (.slice vA n vc) ≠ some b := fun e => by have := hob b e; omega
      refine ⟨⟨by omega, fun e => hgg b hb hne ?_⟩, hkeep b hb hne⟩
      simpa [Value.ownBlock] using e
    · refine ⟨⟨hS.1, fun e => hgg b (by omega) hS.2 ?_⟩, (hkeep b (by omega) hS.2).trans (hm2.1.block b hb (fun e => by cases e; exact absurd hS.1 (Nat.lt_irrefl _)))⟩
      simpa [Value.ownBlock] using e
/-- the words' slice is laid into the lexer's block -/
theorem lex_store {w w5 : World} {B g je n : Nat} {er fq : Int} {v v' : Value} {s : ByteArray} {vs : List Value} (hgB : B < g) (hbel : Below B w w5) (hg : w5.heap[g]? = some (acell s v je er fq)) (hR : w5.heap[B]? = some (.cells #[.int .i64 0, .int .i64 0, .int .i64 0] 25 (0, 0))) (hown : w5.ownsRow (g + 1) 34 5 v' n vs) :
    Below B w (w5.setCell ⟨g, 2, none⟩ v') ∧ (w5.setCell ⟨g, 2, none⟩ v').heap[g]? = some (acell s v' je er fq) ∧ (w5.setCell ⟨g, 2, none⟩ v').heap[B]? = some (.cells #[.int .i64 0, .int .i64 0, .int .i64 0] 25 (0, 0)) ∧ (w5.setCell ⟨g, 2, none⟩ v').ownsRow (g + 1) 34 5 v' n vs ∧ ∀ (S : Nat → Prop) (us : List Value) (ts : List Kx.Tok), (∀ b, S b → g < b) → ToksAt S w5 us ts → ToksAt S (w5.setCell ⟨g, 2, none⟩ v') us ts := by
  refine ⟨hbel.setCell (p := ⟨g, 2, none⟩) (by simp; omega) _, ?_, blk_far hR (by simp; omega) _, own_far hown (by simp) _, fun S us ts hS h => h.mono (by simp [World.setCell]) (fun b hb _ => ⟨hb, Below.heap_setCell w5 _ _ b (by have := hS b hb; simp; omega)⟩)⟩
  simpa [acell] using blk_set (cs := #[.string s, .int .i64 (je : Int), v, .int .i64 er, .int .i64 fq, .int .i64 0]) (t := 47) (fr := (0, 0)) hg 2 v'

/-- the place is laid into the lexer's block -/
theorem lex_place {w w5 : World} {B g je n : Nat} {er fq : Int} {v v' : Value} {s : ByteArray} {vs : List Value} (hg : w5.heap[g]? = some (acell s v je er fq)) (hgB : B < g) (hbel : Below B w w5) (hR : w5.heap[B]? = some (.cells #[.int .i64 0, .int .i64 0, .int .i64 0] 25 (0, 0))) (hown : w5.ownsRow (g + 1) 34 5 v' n vs) (k : Nat) :
    Below B w (w5.setCell ⟨g, 1, none⟩ (.int .i64 (k : Int))) ∧ (w5.setCell ⟨g, 1, none⟩ (.int .i64 (k : Int))).heap[g]? = some (acell s v k er fq) ∧ (w5.setCell ⟨g, 1, none⟩ (.int .i64 (k : Int))).heap[B]? = some (.cells #[.int .i64 0, .int .i64 0, .int .i64 0] 25 (0, 0)) ∧ (w5.setCell ⟨g, 1, none⟩ (.int .i64 (k : Int))).ownsRow (g + 1) 34 5 v' n vs ∧ ∀ (S : Nat → Prop) (us : List Value) (ts : List Kx.Tok), (∀ b, S b → g < b) → ToksAt S w5 us ts → ToksAt S (w5.setCell ⟨g, 1, none⟩ (.int .i64 (k : Int))) us ts := by
  refine ⟨hbel.setCell (p := ⟨g, 1, none⟩) (by simp; omega) _, ?_, blk_far hR (by simp; omega) _, own_far hown (by simp) _, fun S us ts hS h => h.mono (by simp [World.setCell]) (fun b hb _ => ⟨hb, Below.heap_setCell w5 _ _ b (by have := hS b hb; simp; omega)⟩)⟩
  simpa [acell] using blk_set (cs := #[.string s, .int .i64 (je : Int), v, .int .i64 er, .int .i64 fq, .int .i64 0]) (t := 47) (fr := (0, 0)) hg 1 (.int .i64 (k : Int))
/-- a word's contract, good and bad together -/
def WordHow (R : Kx.Word) (w w' : World) (fp : Int) (je : Nat) (er fq : Int) (cs : List Value) : Prop :=
  (er = 0 ∧ fq = fp ∧ ∃ (t : Kx.Tok) (a0 a1 : Value), R = .good t je ∧ cs = tokCells t a0 a1 ∧ LitAt (w.heap.size ≤ ·) w' (.agg #[a0, a1]) t.lit) ∨ (∃ j : Nat, fq = (j : Int) ∧ R = .bad er j)
theorem word_split {R : Kx.Word} {g : Nat} {s : ByteArray} {v : Value} {fp : Int} {w : World} {e : Ending} {w' : World} (h : WordIs R g s v fp w e w') : ∃ (k : Int) (x : ByteArray) (A : Option Addr) (n c : Nat) (B : Option Addr) (m d : Nat) (p : Int) (je : Nat) (er fq : Int),
    e = .returned (.agg #[.int .i64 k, .string x, .slice A n c, .slice B m d, .int .i64 p]) ∧ Moves g s v je er fq w w' ∧ WordHow R w w' fp je er fq [.int .i64 k, .string x, .slice A n c, .slice B m d, .int .i64 p] := by
  cases R with
  | bad er j =>
    obtain ⟨k, x, A, n, c, B, m, d, p, h1, q, h2⟩ := h
    exact ⟨k, x, A, n, c, B, m, d, p, q, er, _, h1, h2, .inr ⟨j, rfl, rfl⟩⟩
  | good t j =>
    obtain ⟨a0, a1, h1, h2, h3⟩ := h
    obtain ⟨A, n, c, B, m, d, hv⟩ := lit_form h2
    obtain ⟨rfl, rfl⟩ : a0 = .slice A n c ∧ a1 = .slice B m d := by simpa using hv
    exact ⟨_, _, A, n, c, B, m, d, _, j, 0, fp, h1, h3, .inl ⟨rfl, rfl, t, _, _, rfl, rfl, h2⟩⟩
theorem moves_undrew {g : Nat} {s : ByteArray} {v : Value} {i : Nat} {er fp : Int} {w w' : World} (h : Moves g s v i er fp w.drew w') : Moves g s v i er fp w w' := ⟨⟨h.1.os, h.1.tape, h.1.output, h.1.size, h.1.block⟩, h.2⟩
theorem five_one (k : Int) (x : ByteArray) (A : Option Addr) (n c : Nat) (B : Option Addr) (m d : Nat) (p : Int) : ∀ u ∈ ([.int .i64 k, .string x, .slice A n c, .slice B m d, .int .i64 p] : List Value), u.oneCell' = true := by
  intro u hu
  simp only [List.mem_cons, List.not_mem_nil, or_false] at hu
  rcases hu with rfl | rfl | rfl | rfl | rfl <;> rfl

theorem info34 : (Try.prog.info? 34).map (fun i => (i.zero, i.size, i.bytes)) = some (some (.agg #[.int .i64 0, .string ⟨#[]⟩, .slice none 0 0, .slice none 0 0, .int .i64 0]), 5, 80) := by kernel_rfl
/-- how far the words have come -/
def LexRel (R : Kx.Res) (s : ByteArray) (g f at_ : Nat) (v : Value) (er fp : Int) (wr : World) : Prop :=
  (er = 0 ∧ fp = 0 ∧ ∃ (ts : List Kx.Tok) (vs : List Value), at_ ≤ s.size ∧ s.size < at_ + f ∧ ts.length ≤ at_ ∧ Kx.lexAt f (nb s) at_ ts = R ∧ wr.ownsRow (g + 1) 34 5 v ts.length vs ∧ ToksAt (fun b => g < b ∧ v.ownBlock ≠ some b) wr vs ts) ∨ ((er = 2 ∨ er = 3) ∧ ∃ j : Nat, fp = (j : Int) ∧ R = .bad er j)

set_option maxRecDepth 100000 in
set_option maxHeartbeats 8000000 in
theorem lex_any (s : ByteArray) (w : World) (hgb : Glob w) : Calls Try.prog 6 #[.string s] w (LexIs (Kx.lex (nb s)) w) := by
  obtain ⟨i0, hi0, hz0, hz1, hz2⟩ := info_parts info34
  obtain ⟨R, hR⟩ : ∃ R, Kx.lex (nb s) = R := ⟨_, rfl⟩
  rw [hR]
  unfold Kx.lex at hR
  rw [nb_length] at hR
  by_cases hbig : 8192 < s.size
  · rw [if_pos hbig] at hR
    subst hR
    go_enter Try.func6, Try.ntmps6
    go_wp2
    refine bodyPost_ret (v := .tuple #[.slice none 0 0, .agg #[.int .i64 14, .int .i64 0, .int .i64 0]]) (by simp [results, Try.results6, go_sem]) rfl ?_
    exact ⟨rfl, (Below.refl _ _).alloc (Nat.le_refl _) _⟩
  · rw [if_neg hbig] at hR
    have HRR := Lib.hid hR
    have HGB := Lib.hid hgb
    clear hR hgb
    have hs : s.size ≤ 100000 := by omega
    go_enter Try.func6, Try.ntmps6
    go_wp2
    generalize hB : w.heap.size = B
    generalize hG : B + 1 = g
    have hgB : B < g := by omega
    have HB := Lib.hid hB
    have HG := Lib.hid hG
    have hinit : Below B w ((w.alloc (Obj.cells #[.int .i64 0, .int .i64 0, .int .i64 0] 25)).alloc (Obj.cells #[.string s, .int .i64 0, .slice none 0 0, .int .i64 0, .int .i64 0, .int .i64 0] 47)) ∧ ((w.alloc (Obj.cells #[.int .i64 0, .int .i64 0, .int .i64 0] 25)).alloc (Obj.cells #[.string s, .int .i64 0, .slice none 0 0, .int .i64 0, .int .i64 0, .int .i64 0] 47)).heap[B]? = some (.cells #[.int .i64 0, .int .i64 0, .int .i64 0] 25 (0, 0)) ∧ ((w.alloc (Obj.cells #[.int .i64 0, .int .i64 0, .int .i64 0] 25)).alloc (Obj.cells #[.string s, .int .i64 0, .slice none 0 0, .int .i64 0, .int .i64 0, .int .i64 0] 47)).heap[g]? = some (acell s (.slice none 0 0) 0 0 0) := by
      rw [← hG, ← hB]
      refine ⟨((Below.refl _ _).alloc (Nat.le_refl _) _).alloc (by simp) _, blk_alloc (blk_new w _) _, ?_⟩
      have := blk_new (w.alloc (Obj.cells #[.int .i64 0, .int .i64 0, .int .i64 0] 25)) (Obj.cells #[.string s, .int .i64 0, .slice none 0 0, .int .i64 0, .int .i64 0, .int .i64 0] 47)
      rw [show (w.alloc (Obj.cells #[.int .i64 0, .int .i64 0, .int .i64 0] 25)).heap.size = w.heap.size + 1 by simp] at this
      exact this
    have HI := Lib.hid hinit
    clear hB hG hinit
    go_loopg [] ((nb s).length + 1) (fun f wr => ∃ (at_ : Nat) (v : Value) (er fp : Int), wr.heap[g]? = some (acell s v at_ er fp) ∧ Below B w wr ∧ wr.heap[B]? = some (.cells #[.int .i64 0, .int .i64 0, .int .i64 0] 25 (0, 0)) ∧ (∃ A n c, v = .slice A n c) ∧ LexRel R s g f at_ v er fp wr)
    case atStart =>
      exact ⟨0, .slice none 0 0, 0, 0, HI.out.2.2, HI.out.1, HI.out.2.1, ⟨none, 0, 0, rfl⟩, .inl ⟨rfl, rfl, [], [], Nat.zero_le _, by rw [nb_length]; omega, Nat.le_refl _, by rw [nb_length]; exact HRR.out, World.ownsRow_nil _ _ _ _, rfl⟩⟩
    case round =>
      obtain ⟨at_, v, er, fp, hlc, hbel, hres, ⟨uA, un, uc, rfl⟩, hrel⟩ := hrel
      have HLC := Lib.hid hlc
      have HBEL := Lib.hid hbel
      have HRES := Lib.hid hres
      have c1 := blk_cell hlc 1
      have c2 := blk_cell hlc 2
      have c3 := blk_cell hlc 3
      have c4 := blk_cell hlc 4
      have c5 := blk_cell hlc 5
      have t0 := blk_cell HRES.out 0
      have tf0 := blk_frozen HRES.out 0
      have t1 := blk_cell HRES.out 1
      have tf1 := blk_frozen HRES.out 1
      have t2 := blk_cell HRES.out 2
      have tf2 := blk_frozen HRES.out 2
      have hgl := blk_lt hlc
      clear hlc hbel hres
      rcases hrel with ⟨rfl, rfl, ts, vs, hat, hf, hts, hM, hown, htk⟩ | ⟨her, j, rfl, rfl⟩
      · obtain ⟨f, rfl⟩ : ∃ f, gk = f + 1 := ⟨gk - 1, by omega⟩
        obtain ⟨_, _, hv, hvc⟩ := own_slice hown
        cases hv
        rw [Kx.lexAt, nb_length] at hM
        have HOWN := Lib.hid hown
        have HTK := Lib.hid htk
        have HTS := Lib.hid hts
        have HF := Lib.hid hf
        clear hown htk hts hf
        by_cases hend : s.size ≤ at_
        · rw [if_pos hend] at hM
          subst hM
          have d1 : decide (at_ < s.size) = false := decide_eq_false (by omega)
          have d2 : decide ((at_ : Int) < (s.size : Int)) = false := decide_eq_false (by omega)
          go_wp2
          obtain ⟨q0, q1, q2⟩ := three_cells HRES.out (.int .i64 0) (.int .i64 0) (.int .i64 0)
          refine bodyPost_ret (v := .tuple #[.slice uA ts.length uc, .agg #[.int .i64 0, .int .i64 0, .int .i64 0]]) (by simp [results, Try.results6, go_sem, q0, q1, q2]) rfl ?_
          exact ⟨uA, uc, vs, rfl, lex_end HB.out hgB HBEL.out HOWN.out HTK.out (by have := HTS.out; omega) hvc _ _ _⟩
        · rw [if_neg hend] at hM
          have hlt : at_ < s.size := by omega
          have d1 : decide (at_ < s.size) = true := decide_eq_true hlt
          have d2 : decide ((at_ : Int) < (s.size : Int)) = true := decide_eq_true (by omega)
          have hx := byte_gt s at_ hlt
          obtain ⟨b, hb⟩ : ∃ b, s[at_] = b := ⟨_, rfl⟩
          by_cases h32 : Kx.gt (nb s) at_ = 32
          · rw [if_pos h32] at hM
            have HM := Lib.hid hM
            have hb32 : (b.toNat : Int) = 32 := by rw [← h32, ← hx, hb]
            clear hM hx h32
            have hwr : IntKind.i64.wrap ((at_ : Int) + 1) = (at_ : Int) + 1 := wraps_i64 _ (by omega) (by omega)
            have cf1 := blk_frozen HLC.out 1
            go_wp2
            go_roundg f
            case rel =>
              have hst := lex_place HLC.out hgB HBEL.out HRES.out HOWN.out (at_ + 1)
              exact ⟨at_ + 1, _, 0, 0, hst.2.1, hst.1, hst.2.2.1, ⟨_, _, _, rfl⟩, .inl ⟨rfl, rfl, ts, vs, hlt, by have := HF.out; omega, by have := HTS.out; omega, HM.out, hst.2.2.2.1, hst.2.2.2.2 _ _ _ (fun b hb => hb.1) HTK.out⟩⟩
            case measure => exact Nat.lt_succ_self f
          · rw [if_neg h32] at hM
            have hb32 : ((b.toNat : Int) == 32) = false := beq_eq_false_iff_ne.2 (by rw [← hb, hx]; exact h32)
            clear hx h32
            cases hp : Kx.pre [226, 141, 157] (nb s) at_
            · have HP := Lib.hid (has_is s ⟨#[226, 141, 157]⟩ at_ (by omega) (b := false) hp)
              rw [if_neg (by rw [show Kx.remark = [226, 141, 157] from rfl, hp]; decide)] at hM
              clear hp
              have HM := Lib.hid hM
              clear hM
              by_cases h2048 : ts.length = 2048
              · have hRb : R = .bad 14 at_ := by rw [← HM.out, if_pos h2048]
                subst hRb
                have bl : ((ts.length : Int) == 2048) = true := beq_iff_eq.2 (by omega)
                go_wp2_with fail
                refine (HP.out _).mono ?_
                rintro e w1 ⟨rfl, rfl⟩
                go_wp2
                go_region
                all_goals
                  go_wp2
                  obtain ⟨q0, q1, q2⟩ := three_cells HRES.out (.int .i64 14) (.int .i64 (at_ : Int)) (.int .i64 0)
                  refine bodyPost_ret (v := .tuple #[.slice none 0 0, .agg #[.int .i64 14, .int .i64 (at_ : Int), .int .i64 0]]) (by simp [results, Try.results6, go_sem, q0, q1, q2]) rfl ?_
                  exact ⟨rfl, (three_below HB.out HBEL.out _ _ _).drew⟩
              · have bl : ((ts.length : Int) == 2048) = false := beq_eq_false_iff_ne.2 (by omega)
                go_wp2_with fail
                refine (HP.out _).mono ?_
                rintro e w1 ⟨rfl, rfl⟩
                have HGW := Lib.hid (show Glob w1.drew from HGB.out.below (by rw [HB.out]; exact HBEL.out.drew))
                have hn8 : ts.length ≤ 8192 := by have := HTS.out; omega
                clear HP
                go_wp2
                go_region_law
                  (first
                    | (refine step_append_lies _ (by rfl) _ _ _ (by rfl) (g + 1) 34 i0 _ 5 80 Try.underlying22 hi0 hz0 hz1 hz2 rfl (by omega) (.slice uA ts.length uc) ts.length vs (by rfl) (HOWN2.out.alloc _)
                        ⟨w2.heap.size, 0, none⟩ 1 1 [.int .i64 wk, .string wx, .slice wA wn wc, .slice wB wm wd, .int .i64 wp] (by rfl) (by rfl) (World.news_of_block (cs := #[.int .i64 wk, .string wx, .slice wA wn wc, .slice wB wm wd, .int .i64 wp]) (t := 34) (fr := (0, 0)) (heap_alloc_new w2 _)) htok.out
                        (by omega) (by unfold maxLen; omega) (by omega) (by simp; omega) (w2.heap.size + 1) (by simp) ?_; intro gg cap w5 hown5 hgrow hat5 hlt5; have hp5 := lex_push (cap := cap) HB.out hgB HBEL.out HRES.out HOWN.out hgl HM2.out ((Below.refl _ w2).alloc (Nat.le_refl _) (.cells #[.int .i64 wk, .string wx, .slice wA wn wc, .slice wB wm wd, .int .i64 wp] 34)) hgrow (by simp) hat5; have HP5 := Lib.hid hp5; have HOWN5 := Lib.hid hown5; have z5 := blk_cell hp5.2.1 2; have zf5 := blk_frozen hp5.2.1 2; clear hgrow hat5 hown5 hp5)
                    | (go_simp; go_at_call 14; (with_reducible refine (word_any g s (.slice uA ts.length uc) at_ 0 _ (blk_drew HLC.out) hlt hs HGW.out).mono ?_); intro e w2 hwd; obtain ⟨wk, wx, wA, wn, wc, wB, wm, wd, wp, je, er, fq, rfl, hm2', how⟩ := word_split hwd; have hm2 := moves_undrew hm2'; have HOW := Lib.hid how; have HM2 := Lib.hid hm2; have z2 := blk_cell hm2.2 2; have hg2 := blk_lt hm2.2; have HOWN2 := Lib.hid (own_grown HOWN.out hm2.1 (by omega)); have htok := Lib.hid (five_one wk wx wA wn wc wB wm wd wp); clear how hm2 hm2' hwd; go_wp2_with fail)
                    | fail)
                all_goals
                  go_wp2
                  go_roundg f
                  case rel =>
                    have hst := lex_store hgB HP5.out.1 HP5.out.2.1 HP5.out.2.2.1 HOWN5.out
                    refine ⟨je, _, er, fq, hst.2.1, hst.1, hst.2.2.1, ⟨_, _, _, rfl⟩, ?_⟩
                    rcases HOW.out with ⟨h1, h2, t, a0, a1, hq, hcs, hlit⟩ | ⟨j, h1, hq⟩
                    · have hws := Kx.word_step (nb_bytes s) (by rw [nb_length]; exact hlt) hq
                      rw [nb_length] at hws
                      have hM := HM.out
                      rw [if_neg h2048, hq] at hM
                      refine .inl ⟨h1, h2, ts ++ [t], vs ++ tokCells t a0 a1, hws.2.1, by have := HF.out; have := hws.1; omega, by have := HTS.out; have := hws.1; rw [List.length_append, List.length_singleton]; omega, hM, ?_, hst.2.2.2.2 _ _ _ (fun b hb => hb.1) ?_⟩
                      · rw [List.length_append, ← hcs]; exact hst.2.2.2.1
                      · exact HP5.out.2.2.2 ts t a0 a1 (hlit.mono (Nat.le_refl _) (fun b hb _ => ⟨hb, rfl⟩)) HTK.out
                    · have her := Kx.word_err hq
                      have hM := HM.out
                      rw [if_neg h2048, hq] at hM
                      exact .inr ⟨her, j, h1, hM.symm⟩
                  case measure => exact Nat.lt_succ_self f
            · have HP := Lib.hid (has_is s ⟨#[226, 141, 157]⟩ at_ (by omega) (b := true) hp)
              rw [if_pos (show Kx.pre Kx.remark (nb s) at_ = true from hp)] at hM
              subst hM
              clear hp
              go_wp2_with fail
              refine (HP.out _).mono ?_
              rintro e w1 ⟨rfl, rfl⟩
              go_wp2
              obtain ⟨q0, q1, q2⟩ := three_cells HRES.out (.int .i64 0) (.int .i64 0) (.int .i64 0)
              refine bodyPost_ret (v := .tuple #[.slice uA ts.length uc, .agg #[.int .i64 0, .int .i64 0, .int .i64 0]]) (by simp [results, Try.results6, go_sem, q0, q1, q2]) rfl ?_
              exact ⟨uA, uc, vs, rfl, lex_end HB.out hgB HBEL.out HOWN.out HTK.out (by have := HTS.out; omega) hvc _ _ _⟩
      · rcases her with rfl | rfl
        · by_cases hend : s.size ≤ at_
          · have d1 : decide (at_ < s.size) = false := decide_eq_false (by omega)
            have d2 : decide ((at_ : Int) < (s.size : Int)) = false := decide_eq_false (by omega)
            go_wp2
            go_region
            all_goals
              go_wp2
              obtain ⟨q0, q1, q2⟩ := three_cells HRES.out (.int .i64 2) (.int .i64 (j : Int)) (.int .i64 0)
              refine bodyPost_ret (v := .tuple #[.slice none 0 0, .agg #[.int .i64 2, .int .i64 (j : Int), .int .i64 0]]) (by simp [results, Try.results6, go_sem, q0, q1, q2]) rfl ?_
              exact ⟨rfl, (three_below HB.out HBEL.out _ _ _).drew⟩
          · have d1 : decide (at_ < s.size) = true := decide_eq_true (by omega)
            have d2 : decide ((at_ : Int) < (s.size : Int)) = true := decide_eq_true (by omega)
            go_wp2
            go_region
            all_goals
              go_wp2
              obtain ⟨q0, q1, q2⟩ := three_cells HRES.out (.int .i64 2) (.int .i64 (j : Int)) (.int .i64 0)
              refine bodyPost_ret (v := .tuple #[.slice none 0 0, .agg #[.int .i64 2, .int .i64 (j : Int), .int .i64 0]]) (by simp [results, Try.results6, go_sem, q0, q1, q2]) rfl ?_
              exact ⟨rfl, (three_below HB.out HBEL.out _ _ _).drew⟩
        · by_cases hend : s.size ≤ at_
          · have d1 : decide (at_ < s.size) = false := decide_eq_false (by omega)
            have d2 : decide ((at_ : Int) < (s.size : Int)) = false := decide_eq_false (by omega)
            go_wp2
            go_region
            all_goals
              go_wp2
              obtain ⟨q0, q1, q2⟩ := three_cells HRES.out (.int .i64 3) (.int .i64 (j : Int)) (.int .i64 0)
              refine bodyPost_ret (v := .tuple #[.slice none 0 0, .agg #[.int .i64 3, .int .i64 (j : Int), .int .i64 0]]) (by simp [results, Try.results6, go_sem, q0, q1, q2]) rfl ?_
              exact ⟨rfl, (three_below HB.out HBEL.out _ _ _).drew⟩
          · have d1 : decide (at_ < s.size) = true := decide_eq_true (by omega)
            have d2 : decide ((at_ : Int) < (s.size : Int)) = true := decide_eq_true (by omega)
            go_wp2
            go_region
            all_goals
              go_wp2
              obtain ⟨q0, q1, q2⟩ := three_cells HRES.out (.int .i64 3) (.int .i64 (j : Int)) (.int .i64 0)
              refine bodyPost_ret (v := .tuple #[.slice none 0 0, .agg #[.int .i64 3, .int .i64 (j : Int), .int .i64 0]]) (by simp [results, Try.results6, go_sem, q0, q1, q2]) rfl ?_
              exact ⟨rfl, (three_below HB.out HBEL.out _ _ _).drew⟩
end Go.Proofs.Ytiboikbccmfedaa
