/- Contract of klex.Lex: a text's words, or what is wrong with it. Conditions: none but a bound on the text's length for the machine's numbers. -/
import Derived.Test.YtkghglncmekdgaaKl
import Derived.Test.YtkghglncmekdgaaModel2
namespace Go.Proofs.Ytkghglncmekdgaa
open Go.RowKit

/-- a word as it lies -/
def tokCells (t : Kx.Tok) (a0 a1 : Value) : List Value := [.int .i64 t.kind, .string (strOfNums t.text), a0, a1, .int .i64 (t.at_ : Int)]
/-- words as they lie, one behind the other -/
def ToksAt (S : Nat → Prop) (w : World) : List Value → List Kx.Tok → Prop
  | vs, [] => vs = []
  | vs, t :: ts => ∃ a0 a1 rest, vs = tokCells t a0 a1 ++ rest ∧ LitAt S w (.agg #[a0, a1]) t.lit ∧ ToksAt S w rest ts
theorem ToksAt.length {S : Nat → Prop} {w : World} : ∀ {vs : List Value} {ts : List Kx.Tok}, ToksAt S w vs ts → vs.length = ts.length * 5
  | _, [], h => by rw [show _ = [] from h]; rfl
  | _, t :: ts, h => by
    obtain ⟨a0, a1, rest, rfl, _, h3⟩ := h
    rw [List.length_append, h3.length, List.length_cons]
    simp only [tokCells, List.length_cons, List.length_nil]
    omega
theorem ToksAt.mono {S T : Nat → Prop} {w w' : World} (hs : w.heap.size ≤ w'.heap.size) (hST : ∀ b, S b → b < w.heap.size → T b ∧ w'.heap[b]? = w.heap[b]?) : ∀ {vs : List Value} {ts : List Kx.Tok}, ToksAt S w vs ts → ToksAt T w' vs ts
  | _, [], h => h
  | _, t :: ts, h => by
    obtain ⟨a0, a1, rest, rfl, h2, h3⟩ := h
    exact ⟨a0, a1, rest, rfl, h2.mono hs hST, h3.mono hs hST⟩
theorem ToksAt.snoc {S : Nat → Prop} {w : World} {t : Kx.Tok} {a0 a1 : Value} (ht : LitAt S w (.agg #[a0, a1]) t.lit) : ∀ {vs : List Value} {ts : List Kx.Tok}, ToksAt S w vs ts → ToksAt S w (vs ++ tokCells t a0 a1) (ts ++ [t])
  | _, [], h => by
    rw [show _ = [] from h]
    exact ⟨a0, a1, [], rfl, ht, rfl⟩
  | _, u :: ts, h => by
    obtain ⟨b0, b1, rest, rfl, h2, h3⟩ := h
    exact ⟨b0, b1, rest ++ tokCells t a0 a1, by rw [List.append_assoc], h2, h3.snoc ht⟩
theorem tok_one (t : Kx.Tok) {S : Nat → Prop} {w : World} {a0 a1 : Value} (ht : LitAt S w (.agg #[a0, a1]) t.lit) : ∀ u ∈ tokCells t a0 a1, u.oneCell' = true := by
  obtain ⟨A, n, c, B, m, d, h, _⟩ := ht
  cases h
  intro u hu
  simp [tokCells] at hu
  rcases hu with rfl | rfl | rfl | rfl | rfl <;> rfl

def LexIs (R : Kx.Res) (w : World) (e : Ending) (w' : World) : Prop :=
  match R with
  | .bad er j => e = .returned (.tuple #[.slice none 0 0, faultVal er (j : Int)]) ∧ Below w.heap.size w w'
  | .good ts => ∃ A c vs, e = .returned (.tuple #[.slice A ts.length c, faultVal 0 0]) ∧ RowIn (w.heap.size ≤ ·) w' A vs ∧ ToksAt (w.heap.size ≤ ·) w' vs ts ∧ ts.length ≤ 8192 ∧ ts.length ≤ c ∧ Below w.heap.size w w'
theorem three_cells {w : World} {B : Nat} {p0 p1 p2 : Value} (h1 : w.heap[B]? = some (.cells #[p0, p1, p2] 26 (0, 0))) (v0 v1 v2 : Value) :
    (((w.setCell ⟨B, 0, none⟩ v0).setCell ⟨B, 1, none⟩ v1).setCell ⟨B, 2, none⟩ v2).cell? ⟨B, 0, none⟩ = some v0 ∧ (((w.setCell ⟨B, 0, none⟩ v0).setCell ⟨B, 1, none⟩ v1).setCell ⟨B, 2, none⟩ v2).cell? ⟨B, 1, none⟩ = some v1 ∧ (((w.setCell ⟨B, 0, none⟩ v0).setCell ⟨B, 1, none⟩ v1).setCell ⟨B, 2, none⟩ v2).cell? ⟨B, 2, none⟩ = some v2 := by
  have g2 := blk_set (blk_set (blk_set h1 0 v0) 1 v1) 2 v2
  refine ⟨(blk_cell g2 0).trans ?_, (blk_cell g2 1).trans ?_, (blk_cell g2 2).trans ?_⟩ <;> simp
theorem three_heap (w : World) (B b : Nat) (hb : b ≠ B) (v0 v1 v2 : Value) : (((w.setCell ⟨B, 0, none⟩ v0).setCell ⟨B, 1, none⟩ v1).setCell ⟨B, 2, none⟩ v2).heap[b]? = w.heap[b]? :=
  (Below.heap_setCell _ _ _ b hb).trans ((Below.heap_setCell _ _ _ b hb).trans (Below.heap_setCell _ _ _ b hb))
theorem three_size (w : World) (B : Nat) (v0 v1 v2 : Value) : (((w.setCell ⟨B, 0, none⟩ v0).setCell ⟨B, 1, none⟩ v1).setCell ⟨B, 2, none⟩ v2).heap.size = w.heap.size := by simp [World.setCell]
theorem three_below {w w1 : World} {B : Nat} (hB : w.heap.size = B) (hbel : Below B w w1) (v0 v1 v2 : Value) : Below w.heap.size w (((w1.setCell ⟨B, 0, none⟩ v0).setCell ⟨B, 1, none⟩ v1).setCell ⟨B, 2, none⟩ v2) := by
  subst hB
  exact ((hbel.setCell (p := ⟨w.heap.size, 0, none⟩) (by simp) _).setCell (p := ⟨w.heap.size, 1, none⟩) (by simp) _).setCell (p := ⟨w.heap.size, 2, none⟩) (by simp) _

/-- what the loop knows at its end -/
theorem lex_end {w w1 : World} {B g vc : Nat} {vA : Option Addr} {vs : List Value} {ts : List Kx.Tok} (hB : w.heap.size = B) (hgB : B < g) (hbel : Below B w w1) (hown : w1.ownsRow (g + 1) 35 5 (.slice vA ts.length vc) ts.length vs) (htk : ToksAt (fun b => g < b ∧ Value.ownBlock (.slice vA ts.length vc) ≠ some b) w1 vs ts) (hn : ts.length ≤ 8192) (hc : ts.length ≤ vc) (v0 v1 v2 : Value) :
    RowIn (w.heap.size ≤ ·) (((w1.setCell ⟨B, 0, none⟩ v0).setCell ⟨B, 1, none⟩ v1).setCell ⟨B, 2, none⟩ v2) vA vs ∧ ToksAt (w.heap.size ≤ ·) (((w1.setCell ⟨B, 0, none⟩ v0).setCell ⟨B, 1, none⟩ v1).setCell ⟨B, 2, none⟩ v2) vs ts ∧ ts.length ≤ 8192 ∧ ts.length ≤ vc ∧ Below w.heap.size w (((w1.setCell ⟨B, 0, none⟩ v0).setCell ⟨B, 1, none⟩ v1).setCell ⟨B, 2, none⟩ v2) := by
  subst hB
  refine ⟨(rowIn_own hown).mono (by rw [three_size]; exact Nat.le_refl _) (fun b (hS : g + 1 ≤ b) _ => ⟨Nat.le_trans (by omega) hS, three_heap _ _ _ (by omega) _ _ _⟩), htk.mono (by rw [three_size]; exact Nat.le_refl _) (fun b hS _ => ⟨Nat.le_trans (Nat.le_of_lt hgB) (Nat.le_of_lt hS.1), three_heap _ _ _ (by omega) _ _ _⟩), hn, hc, ?_⟩
  exact ((hbel.setCell (p := ⟨w.heap.size, 0, none⟩) (by simp) _).setCell (p := ⟨w.heap.size, 1, none⟩) (by simp) _).setCell (p := ⟨w.heap.size, 2, none⟩) (by simp) _

/-- what the loop knows behind one more word -/
theorem lex_push {w w1 w2 W4 w5 : World} {B g gg vc cap je H : Nat} {vA : Option Addr} {vs : List Value} {ts : List Kx.Tok} {t : Kx.Tok} {a0 a1 : Value} {s : ByteArray} (hB : w.heap.size = B) (hgB : B < g) (hbel : Below B w w1) (hR : w1.heap[B]? = some (.cells #[.int .i64 0, .int .i64 0, .int .i64 0] 26 (0, 0)))
    (hown1 : w1.ownsRow (g + 1) 35 5 (.slice vA ts.length vc) ts.length vs) (htk : ToksAt (fun b => g < b ∧ Value.ownBlock (.slice vA ts.length vc) ≠ some b) w1 vs ts) (hg : g < w1.heap.size) (hm2 : Moves g s je w1 w2) (hlit : LitAt (w1.heap.size ≤ ·) w2 (.agg #[a0, a1]) t.lit)
    (hal : Below w2.heap.size w2 W4) (hgrow : W4.grownBy w5 (Value.ownBlock (.slice vA ts.length vc))) (hH : H = W4.heap.size) (hat : Value.ownBlock (.slice vA ts.length vc) = some gg ∨ gg = H) :
    Below B w w5 ∧ w5.heap[g]? = some (lcell s je) ∧ w5.heap[B]? = some (.cells #[.int .i64 0, .int .i64 0, .int .i64 0] 26 (0, 0)) ∧ ToksAt (fun b => g < b ∧ Value.ownBlock (.slice (some ⟨gg, 0, none⟩) (ts.length + 1) cap) ≠ some b) w5 (vs ++ tokCells t a0 a1) (ts ++ [t]) := by
  subst hB hH
  have hob : ∀ x, Value.ownBlock (.slice vA ts.length vc) = some x → g + 1 ≤ x ∧ x < w1.heap.size := fun x hx => hown1.lt x hx
  have h12 := hm2.1.size
  have h24 := hal.size
  have h45 := hgrow.size
  have hbel2 : Below w.heap.size w w2 := hbel.grown hm2.1 hbel.size (fun r hr => by cases hr; omega)
  have hbel4 : Below w.heap.size w W4 := below_then hbel2 hbel2.size hal
  have hkeep : ∀ b, b < w2.heap.size → Value.ownBlock (.slice vA ts.length vc) ≠ some b → w5.heap[b]? = w2.heap[b]? := fun b hb hne => (hgrow.block b (by omega) (fun e => hne e.symm)).trans (hal.block b hb)
  have hgg : ∀ b, b < w2.heap.size → Value.ownBlock (.slice vA ts.length vc) ≠ some b → gg ≠ b := by
    intro b hb hne e
    subst e
    rcases hat with h | h
    · exact hne h
    · omega
  refine ⟨hbel4.grown hgrow hbel4.size (fun x hx => by have := hob x hx; omega), ?_, ?_, ?_⟩
  · exact (hkeep g (by omega) (fun e => by have := hob g e; omega)).trans hm2.2
  · exact (hkeep w.heap.size (by have := hbel.size; omega) (fun e => by have := hob _ e; omega)).trans (blk_grown hR hm2.1 (by intro e; cases e; omega))
  · refine ToksAt.snoc (hlit.mono (by omega) fun b (hS : w1.heap.size ≤ b) hb => ?_) (htk.mono (by omega) fun b hS hb => ?_)
    · have hne : Value.ownBlock (.slice vA ts.length vc) ≠ some b := fun e => by have := hob b e; omega
      refine ⟨⟨by omega, fun e => hgg b hb hne ?_⟩, hkeep b hb hne⟩
      simpa [Value.ownBlock] using e
    · refine ⟨⟨hS.1, fun e => hgg b (by omega) hS.2 ?_⟩, (hkeep b (by omega) hS.2).trans (hm2.1.block b hb (fun e => by cases e; exact absurd hS.1 (Nat.lt_irrefl _)))⟩
      simpa [Value.ownBlock] using e

theorem info35 : (Try.prog.info? 35).map (fun i => (i.zero, i.size, i.bytes)) = some (some (.agg #[.int .i64 0, .string ⟨#[]⟩, .slice none 0 0, .slice none 0 0, .int .i64 0]), 5, 80) := by kernel_rfl
theorem while_blank16 (g : Nat) (s : ByteArray) (i : Nat) (w : World) (hg : w.heap[g]? = some (lcell s i)) (hi : i ≤ s.size) (hs : s.size ≤ 100000) :
    Calls Try.prog 15 #[.pointer (some ⟨g, 0, none⟩), .func (.func 16) #[] #[]] w (WhileTo g s i Kx.blank w) :=
  while_any 16 Kx.blank (enters_of Try.func16 (by kernel_rfl) rfl) blank16_any g s i w hg hi hs

set_option maxRecDepth 100000 in
set_option maxHeartbeats 4000000 in
theorem lex_any (s : ByteArray) (w : World) : Calls Try.prog 8 #[.string s] w (LexIs (Kx.lex (nb s)) w) := by
  obtain ⟨i0, hi0, hz0, hz1, hz2⟩ := info_parts info35
  obtain ⟨R, hR⟩ : ∃ R, Kx.lex (nb s) = R := ⟨_, rfl⟩
  rw [hR]
  unfold Kx.lex at hR
  rw [nb_length] at hR
  by_cases hbig : 8192 < s.size
  · rw [if_pos hbig] at hR
    subst hR
    go_enter Try.func8, Try.ntmps8
    go_wp2
    refine bodyPost_ret (v := .tuple #[.slice none 0 0, .agg #[.int .i64 14, .int .i64 0, .int .i64 0]]) (by simp [results, Try.results8, go_sem]) rfl ?_
    exact ⟨rfl, (Below.refl _ _).alloc (Nat.le_refl _) _⟩
  · rw [if_neg hbig] at hR
    have HRR := Lib.hid hR
    clear hR
    have hs : s.size ≤ 100000 := by omega
    go_enter Try.func8, Try.ntmps8
    go_wp2
    generalize hB : w.heap.size = B
    generalize hG : B + 1 = g
    have hgB : B < g := by omega
    have HB := Lib.hid hB
    have HG := Lib.hid hG
    have hinit : Below B w ((w.alloc (Obj.cells #[Value.int IntKind.i64 0, Value.int IntKind.i64 0, Value.int IntKind.i64 0] 26)).alloc (Obj.cells #[Value.string s, Value.int IntKind.i64 0] 53)) ∧ ((w.alloc (Obj.cells #[Value.int IntKind.i64 0, Value.int IntKind.i64 0, Value.int IntKind.i64 0] 26)).alloc (Obj.cells #[Value.string s, Value.int IntKind.i64 0] 53)).heap[B]? = some (.cells #[.int .i64 0, .int .i64 0, .int .i64 0] 26 (0, 0)) ∧ ((w.alloc (Obj.cells #[Value.int IntKind.i64 0, Value.int IntKind.i64 0, Value.int IntKind.i64 0] 26)).alloc (Obj.cells #[Value.string s, Value.int IntKind.i64 0] 53)).heap[g]? = some (lcell s 0) := by
      rw [← hG, ← hB]
      refine ⟨((Below.refl _ _).alloc (Nat.le_refl _) _).alloc (by simp) _, blk_alloc (blk_new w _) _, ?_⟩
      have := blk_new (w.alloc (Obj.cells #[Value.int IntKind.i64 0, Value.int IntKind.i64 0, Value.int IntKind.i64 0] 26)) (Obj.cells #[Value.string s, Value.int IntKind.i64 0] 53)
      rw [show (w.alloc (Obj.cells #[Value.int IntKind.i64 0, Value.int IntKind.i64 0, Value.int IntKind.i64 0] 26)).heap.size = w.heap.size + 1 by simp] at this
      exact this
    have HI := Lib.hid hinit
    clear hB hG hinit
    go_loopg [5] ((nb s).length + 1) (fun f v wr => ∃ (at_ : Nat) (ts : List Kx.Tok) (vs : List Value), at_ ≤ s.size ∧ s.size < at_ + f ∧ ts.length ≤ at_ ∧ Kx.lexAt f (nb s) at_ ts = R ∧ Below B w wr ∧ wr.heap[g]? = some (lcell s at_) ∧ wr.heap[B]? = some (.cells #[.int .i64 0, .int .i64 0, .int .i64 0] 26 (0, 0)) ∧ wr.ownsRow (g + 1) 35 5 v ts.length vs ∧ ToksAt (fun b => g < b ∧ v.ownBlock ≠ some b) wr vs ts)
    case atStart =>
      exact ⟨0, [], [], Nat.zero_le _, by rw [nb_length]; omega, Nat.le_refl _, by rw [nb_length]; exact HRR.out, HI.out.1, HI.out.2.2, HI.out.2.1, World.ownsRow_nil _ _ _ _, rfl⟩
    case round =>
      obtain ⟨at_, ts, vs, hat, hf, hts, hM, hbel, hlc, hres, hown, htk⟩ := hrel
      obtain ⟨f, rfl⟩ : ∃ f, gk = f + 1 := ⟨gk - 1, by omega⟩
      obtain ⟨vA, vc, rfl, hvc⟩ := own_slice hown
      have HM := Lib.hid hM
      have HBEL := Lib.hid hbel
      have HLC := Lib.hid hlc
      have HRES := Lib.hid hres
      have HOWN := Lib.hid hown
      have HTK := Lib.hid htk
      have HTS := Lib.hid hts
      clear hM hbel hlc hres hown htk hts
      go_wp2_with fail
      refine (while_blank16 g s at_ wr HLC.out hat hs).mono ?_
      rintro e w1 ⟨rfl, hm1⟩
      have hspl := Kx.span_le Kx.blank ((nb s).drop at_)
      rw [List.length_drop, nb_length] at hspl
      have hM := HM.out
      rw [Kx.lexAt, nb_length] at hM
      generalize hbq : Kx.span Kx.blank ((nb s).drop at_) = b at *
      obtain ⟨j, hj⟩ : ∃ j, at_ + b = j := ⟨_, rfl⟩
      rw [hj] at hM hm1
      have hjs : j ≤ s.size := by omega
      have e1 := blk_cell hm1.2 1
      have HM1 := Lib.hid hm1
      have HRJ := Lib.hid hM
      have HJ := Lib.hid hj
      clear hm1 hM hj hbq
      have hr1 := blk_grown HRES.out HM1.out.1 (by intro e; cases e; omega)
      have t0 := blk_cell hr1 0
      have t1 := blk_cell hr1 1
      have t2 := blk_cell hr1 2
      have tf0 := blk_frozen hr1 0
      have tf1 := blk_frozen hr1 1
      have tf2 := blk_frozen hr1 2
      have HR1 := Lib.hid hr1
      have HBEL1 := Lib.hid (show Below B w w1 from HBEL.out.grown HM1.out.1 (by have := HBEL.out.size; have := HB.out; omega) (fun r hr => by cases hr; omega))
      have HOWN1 := Lib.hid (own_grown HOWN.out HM1.out.1 (by omega))
      have HTK1 := Lib.hid (HTK.out.mono HM1.out.1.size (fun b hS hb => ⟨hS, HM1.out.1.block b hb (by intro e; cases e; exact absurd hS.1 (Nat.lt_irrefl _))⟩))
      clear hr1
      by_cases hend : s.size ≤ j
      · have hRg : R = .good ts := by rw [← HRJ.out, if_pos (.inl hend)]
        subst hRg
        have hez : decide ((s.size : Int) ≤ (j : Int)) = true := decide_eq_true (by omega)
        go_wp2
        obtain ⟨q0, q1, q2⟩ := three_cells HR1.out (.int .i64 0) (.int .i64 0) (.int .i64 0)
        refine bodyPost_ret (v := .tuple #[.slice vA ts.length vc, .agg #[.int .i64 0, .int .i64 0, .int .i64 0]]) (by simp [results, Try.results8, go_sem, q0, q1, q2]) rfl ?_
        exact ⟨vA, vc, vs, rfl, lex_end HB.out hgB HBEL1.out HOWN1.out HTK1.out (by have := HTS.out; omega) hvc _ _ _⟩
      · have P0 := Lib.hid (peek_here g s j w1 HM1.out.2 (by omega))
        have PP := Lib.hid (peek_prev g s j w1 HM1.out.2 (by omega))
        have hez : decide ((s.size : Int) ≤ (j : Int)) = false := decide_eq_false (by omega)
        have hen : decide (s.size ≤ j) = false := decide_eq_false (by omega)
        generalize hcj : Kx.gt (nb s) j = cj at P0 HRJ
        generalize hpj : Kx.prev (nb s) j = pj at PP HRJ
        by_cases h47 : cj = 47
        · subst h47
          by_cases hj0 : j = 0
          · have hRg : R = .good ts := by rw [← HRJ.out, if_pos (.inr ⟨rfl, .inl hj0⟩)]
            subst hRg
            have bj0 : ((j : Int) == 0) = true := beq_iff_eq.2 (by omega)
            clear hj0
            go_wp2_with fail
            refine P0.out.mono ?_
            rintro e w2 ⟨rfl, rfl⟩
            go_wp2
            obtain ⟨q0, q1, q2⟩ := three_cells HR1.out (.int .i64 0) (.int .i64 0) (.int .i64 0)
            refine bodyPost_ret (v := .tuple #[.slice vA ts.length vc, .agg #[.int .i64 0, .int .i64 0, .int .i64 0]]) (by simp [results, Try.results8, go_sem, q0, q1, q2]) rfl ?_
            exact ⟨vA, vc, vs, rfl, lex_end HB.out hgB HBEL1.out HOWN1.out HTK1.out (by have := HTS.out; omega) hvc _ _ _⟩
          · have bj0 : ((j : Int) == 0) = false := beq_eq_false_iff_ne.2 (by omega)
            by_cases hp32 : pj = 32
            · have hRg : R = .good ts := by rw [← HRJ.out, if_pos (.inr ⟨rfl, .inr hp32⟩)]
              subst hRg
              subst hp32
              go_wp2_with fail
              refine P0.out.mono ?_
              rintro e w2 ⟨rfl, rfl⟩
              go_wp2_with fail
              refine PP.out.mono ?_
              rintro e w2 ⟨rfl, rfl⟩
              go_wp2
              obtain ⟨q0, q1, q2⟩ := three_cells HR1.out (.int .i64 0) (.int .i64 0) (.int .i64 0)
              refine bodyPost_ret (v := .tuple #[.slice vA ts.length vc, .agg #[.int .i64 0, .int .i64 0, .int .i64 0]]) (by simp [results, Try.results8, go_sem, q0, q1, q2]) rfl ?_
              exact ⟨vA, vc, vs, rfl, lex_end HB.out hgB HBEL1.out HOWN1.out HTK1.out (by have := HTS.out; omega) hvc _ _ _⟩
            · have bp : (pj == 32) = false := beq_eq_false_iff_ne.2 hp32
              go_wp2_with fail
              refine P0.out.mono ?_
              rintro e w2 ⟨rfl, rfl⟩
              go_wp2_with fail
              refine PP.out.mono ?_
              rintro e w2 ⟨rfl, rfl⟩
              have hRj : R = if ts.length = 2048 then .bad 14 j else match Kx.wordAt (nb s) j with | .bad e j => .bad e j | .good t j => Kx.lexAt f (nb s) j (ts ++ [t]) := by
                rw [← HRJ.out, if_neg (by intro h; rcases h with h | h; exact hend h; rcases h.2 with h | h; exact hj0 h; exact hp32 h)]
                by_cases h : ts.length = 2048
                · rw [if_pos h, if_pos h]
                · rw [if_neg h, if_neg h]
                  cases Kx.wordAt (nb s) j <;> rfl
              have HRj := Lib.hid hRj
              clear hRj
              by_cases h2048 : ts.length = 2048
              · have hRb : R = .bad 14 j := by rw [HRj.out, if_pos h2048]
                subst hRb
                have bl : ((ts.length : Int) == 2048) = true := beq_iff_eq.2 (by omega)
                go_wp2
                go_region
                all_goals
                  go_wp2
                  obtain ⟨q0, q1, q2⟩ := three_cells HR1.out (.int .i64 14) (.int .i64 (j : Int)) (.int .i64 0)
                  refine bodyPost_ret (v := .tuple #[.slice none 0 0, .agg #[.int .i64 14, .int .i64 (j : Int), .int .i64 0]]) (by simp [results, Try.results8, go_sem, q0, q1, q2]) rfl ?_
                  exact ⟨rfl, (three_below HB.out HBEL1.out _ _ _).drew⟩
              · have bl : ((ts.length : Int) == 2048) = false := beq_eq_false_iff_ne.2 (by omega)
                go_wp2_with fail
                refine (word_lex g s j w1 HM1.out.2 (by omega) hs).mono ?_
                rintro e w2 hwd
                generalize hq : Kx.wordAt (nb s) j = q at hwd
                cases q with
                | bad er je =>
                  obtain ⟨k, x, wA, wn, wc, wB, wm, wd, p, rfl, kk, hm2⟩ := hwd
                  have hRb : R = .bad er je := by rw [HRj.out, if_neg h2048, hq]
                  subst hRb
                  have her := Kx.word_err hq
                  have hr2 := blk_grown HR1.out hm2.1 (by intro e; cases e; omega)
                  have z0 := blk_cell hr2 0
                  have z1 := blk_cell hr2 1
                  have z2 := blk_cell hr2 2
                  have zf0 := blk_frozen hr2 0
                  have zf1 := blk_frozen hr2 1
                  have zf2 := blk_frozen hr2 2
                  have lB := blk_lt hr2
                  have lB1 : B < w2.heap.size + 1 := by omega
                  have HR2 := Lib.hid hr2
                  have HBEL2 := Lib.hid (show Below B w w2 from HBEL1.out.grown hm2.1 (by have := HBEL1.out.size; have := HB.out; omega) (fun r hr => by cases hr; omega))
                  clear hr2 hm2 hq
                  dsimp only [faultVal]
                  rcases her with rfl | rfl
                  · go_wp2
                    go_region
                    all_goals
                      go_wp2
                      have hset := blk_alloc (blk_alloc (blk_set (blk_set (blk_set HR2.out 0 (.int .i64 2)) 1 (.int .i64 (je : Int))) 2 (.int .i64 0)) (Obj.cells #[Value.int IntKind.i64 k, Value.string x, Value.slice wA wn wc, Value.slice wB wm wd, Value.int IntKind.i64 p] 35)) (Obj.cells #[Value.int IntKind.i64 2, Value.int IntKind.i64 (je : Int), Value.int IntKind.i64 0] 26)
                      have q0 := blk_cell hset 0
                      have q1 := blk_cell hset 1
                      have q2 := blk_cell hset 2
                      have hsz : w.heap.size ≤ w2.heap.size := by rw [HB.out]; omega
                      refine bodyPost_ret (v := .tuple #[.slice none 0 0, .agg #[.int .i64 2, .int .i64 (je : Int), .int .i64 0]]) (by simp [results, Try.results8, go_sem, q0, q1, q2]) rfl ?_
                      exact ⟨rfl, (((three_below HB.out HBEL2.out _ _ _).alloc (by rw [three_size]; exact hsz) _).alloc (by have := three_size w2 B (.int .i64 2) (.int .i64 (je : Int)) (.int .i64 0); simp only [World.alloc, Array.size_push]; omega) _).drew⟩
                  · go_wp2
                    go_region
                    all_goals
                      go_wp2
                      have hset := blk_alloc (blk_alloc (blk_set (blk_set (blk_set HR2.out 0 (.int .i64 3)) 1 (.int .i64 (je : Int))) 2 (.int .i64 0)) (Obj.cells #[Value.int IntKind.i64 k, Value.string x, Value.slice wA wn wc, Value.slice wB wm wd, Value.int IntKind.i64 p] 35)) (Obj.cells #[Value.int IntKind.i64 3, Value.int IntKind.i64 (je : Int), Value.int IntKind.i64 0] 26)
                      have q0 := blk_cell hset 0
                      have q1 := blk_cell hset 1
                      have q2 := blk_cell hset 2
                      have hsz : w.heap.size ≤ w2.heap.size := by rw [HB.out]; omega
                      refine bodyPost_ret (v := .tuple #[.slice none 0 0, .agg #[.int .i64 3, .int .i64 (je : Int), .int .i64 0]]) (by simp [results, Try.results8, go_sem, q0, q1, q2]) rfl ?_
                      exact ⟨rfl, (((three_below HB.out HBEL2.out _ _ _).alloc (by rw [three_size]; exact hsz) _).alloc (by have := three_size w2 B (.int .i64 3) (.int .i64 (je : Int)) (.int .i64 0); simp only [World.alloc, Array.size_push]; omega) _).drew⟩
                | good t je =>
                  obtain ⟨a0, a1, rfl, hlit, hm2⟩ := hwd
                  obtain ⟨xA, xn, xc, xB, xm, xd, hfm⟩ := lit_form hlit
                  cases hfm
                  have hst := Kx.word_step (nb_bytes s) (by rw [nb_length]; omega) hq
                  rw [nb_length] at hst
                  have hRg : Kx.lexAt f (nb s) je (ts ++ [t]) = R := by rw [HRj.out, if_neg h2048, hq]
                  have hg1 : g < w1.heap.size := blk_lt HM1.out.2
                  have hown2 := own_grown HOWN1.out hm2.1 (by omega)
                  have hsz2 := hm2.1.size
                  have HRG := Lib.hid hRg
                  have HM2 := Lib.hid hm2
                  have HLIT := Lib.hid hlit
                  have HOWN2 := Lib.hid hown2
                  have htok := Lib.hid (tok_one t hlit)
                  clear hRg hm2 hlit hown2 hq
                  have hn8 : ts.length ≤ 8192 := by have := HTS.out; omega
                  have HST := Lib.hid hst
                  clear hst
                  have hnew := World.news_of_block (cs := (tokCells t (.slice xA xn xc) (.slice xB xm xd)).toArray) (t := 35) (fr := (0, 0)) (heap_alloc_new ((w2.alloc (Obj.cells (tokCells t (.slice xA xn xc) (.slice xB xm xd)).toArray 35)).alloc (Obj.cells #[Value.int IntKind.i64 0, Value.int IntKind.i64 0, Value.int IntKind.i64 0] 26)) (Obj.cells (tokCells t (.slice xA xn xc) (.slice xB xm xd)).toArray 35))
                  rw [show ((w2.alloc (Obj.cells (tokCells t (.slice xA xn xc) (.slice xB xm xd)).toArray 35)).alloc (Obj.cells #[Value.int IntKind.i64 0, Value.int IntKind.i64 0, Value.int IntKind.i64 0] 26)).heap.size = w2.heap.size + 1 + 1 by simp] at hnew
                  have HNEW := Lib.hid hnew
                  clear hnew
                  dsimp only [tokVal, faultVal]
                  go_wp2_with
                    (at_builtin; refine wpList_append_lies _ rfl (.tmp 60) (.tmp 62) 23 rfl (g + 1) 35 i0 _ 5 80 Try.underlying23 hi0 hz0 hz1 hz2 rfl (by omega) (.slice vA ts.length vc) ts.length vs rfl (((HOWN2.out.alloc (Obj.cells (tokCells t (.slice xA xn xc) (.slice xB xm xd)).toArray 35)).alloc _).alloc _)
                        ⟨w2.heap.size + 1 + 1, 0, none⟩ 1 1 (tokCells t (.slice xA xn xc) (.slice xB xm xd)) rfl rfl HNEW.out htok.out (by omega) (by unfold maxLen; omega) (by omega) (by simp; omega) (w2.heap.size + 1 + 1 + 1) (by simp) ?_; intro gg cap w5 hown5 hgrow hat5 hlt5; have HP := Lib.hid (lex_push (cap := cap) HB.out hgB HBEL1.out HR1.out HOWN1.out HTK1.out hg1 HM2.out HLIT.out ((((Below.refl _ w2).alloc (Nat.le_refl _) (Obj.cells (tokCells t (.slice xA xn xc) (.slice xB xm xd)).toArray 35)).alloc (by simp) _).alloc (by simp; omega) _) hgrow (by simp) hat5); have HOWN5 := Lib.hid hown5; clear hgrow hat5 hown5)
                  go_roundg f
                  case rel =>
                    have hjj := HJ.out
                    refine ⟨je, ts ++ [t], vs ++ tokCells t (.slice xA xn xc) (.slice xB xm xd), HST.out.2.1, by have := HST.out.1; omega, by have := HST.out.1; have := HTS.out; rw [List.length_append]; simp only [List.length_cons, List.length_nil]; omega, HRG.out, HP.out.1, HP.out.2.1, HP.out.2.2.1, ?_, ?_⟩
                    · rw [List.length_append]; exact HOWN5.out
                    · exact HP.out.2.2.2
                  case measure => exact Nat.lt_succ_self f
        · have b47 : (cj == 47) = false := beq_eq_false_iff_ne.2 h47
          go_wp2_with fail
          refine P0.out.mono ?_
          rintro e w2 ⟨rfl, rfl⟩
          have hRj : R = if ts.length = 2048 then .bad 14 j else match Kx.wordAt (nb s) j with | .bad e j => .bad e j | .good t j => Kx.lexAt f (nb s) j (ts ++ [t]) := by
            rw [← HRJ.out, if_neg (by intro h; rcases h with h | h; exact hend h; exact h47 h.1)]
            by_cases h : ts.length = 2048
            · rw [if_pos h, if_pos h]
            · rw [if_neg h, if_neg h]
              cases Kx.wordAt (nb s) j <;> rfl
          have HRj := Lib.hid hRj
          clear hRj
          by_cases h2048 : ts.length = 2048
          · have hRb : R = .bad 14 j := by rw [HRj.out, if_pos h2048]
            subst hRb
            have bl : ((ts.length : Int) == 2048) = true := beq_iff_eq.2 (by omega)
            go_wp2
            go_region
            all_goals
              go_wp2
              obtain ⟨q0, q1, q2⟩ := three_cells HR1.out (.int .i64 14) (.int .i64 (j : Int)) (.int .i64 0)
              refine bodyPost_ret (v := .tuple #[.slice none 0 0, .agg #[.int .i64 14, .int .i64 (j : Int), .int .i64 0]]) (by simp [results, Try.results8, go_sem, q0, q1, q2]) rfl ?_
              exact ⟨rfl, (three_below HB.out HBEL1.out _ _ _).drew⟩
          · have bl : ((ts.length : Int) == 2048) = false := beq_eq_false_iff_ne.2 (by omega)
            go_wp2_with fail
            refine (word_lex g s j w1 HM1.out.2 (by omega) hs).mono ?_
            rintro e w2 hwd
            generalize hq : Kx.wordAt (nb s) j = q at hwd
            cases q with
            | bad er je =>
              obtain ⟨k, x, wA, wn, wc, wB, wm, wd, p, rfl, kk, hm2⟩ := hwd
              have hRb : R = .bad er je := by rw [HRj.out, if_neg h2048, hq]
              subst hRb
              have her := Kx.word_err hq
              have hr2 := blk_grown HR1.out hm2.1 (by intro e; cases e; omega)
              have z0 := blk_cell hr2 0
              have z1 := blk_cell hr2 1
              have z2 := blk_cell hr2 2
              have zf0 := blk_frozen hr2 0
              have zf1 := blk_frozen hr2 1
              have zf2 := blk_frozen hr2 2
              have lB := blk_lt hr2
              have lB1 : B < w2.heap.size + 1 := by omega
              have HR2 := Lib.hid hr2
              have HBEL2 := Lib.hid (show Below B w w2 from HBEL1.out.grown hm2.1 (by have := HBEL1.out.size; have := HB.out; omega) (fun r hr => by cases hr; omega))
              clear hr2 hm2 hq
              dsimp only [faultVal]
              rcases her with rfl | rfl
              · go_wp2
                go_region
                all_goals
                  go_wp2
                  have hset := blk_alloc (blk_alloc (blk_set (blk_set (blk_set HR2.out 0 (.int .i64 2)) 1 (.int .i64 (je : Int))) 2 (.int .i64 0)) (Obj.cells #[Value.int IntKind.i64 k, Value.string x, Value.slice wA wn wc, Value.slice wB wm wd, Value.int IntKind.i64 p] 35)) (Obj.cells #[Value.int IntKind.i64 2, Value.int IntKind.i64 (je : Int), Value.int IntKind.i64 0] 26)
                  have q0 := blk_cell hset 0
                  have q1 := blk_cell hset 1
                  have q2 := blk_cell hset 2
                  have hsz : w.heap.size ≤ w2.heap.size := by rw [HB.out]; omega
                  refine bodyPost_ret (v := .tuple #[.slice none 0 0, .agg #[.int .i64 2, .int .i64 (je : Int), .int .i64 0]]) (by simp [results, Try.results8, go_sem, q0, q1, q2]) rfl ?_
                  exact ⟨rfl, (((three_below HB.out HBEL2.out _ _ _).alloc (by rw [three_size]; exact hsz) _).alloc (by have := three_size w2 B (.int .i64 2) (.int .i64 (je : Int)) (.int .i64 0); simp only [World.alloc, Array.size_push]; omega) _).drew⟩
              · go_wp2
                go_region
                all_goals
                  go_wp2
                  have hset := blk_alloc (blk_alloc (blk_set (blk_set (blk_set HR2.out 0 (.int .i64 3)) 1 (.int .i64 (je : Int))) 2 (.int .i64 0)) (Obj.cells #[Value.int IntKind.i64 k, Value.string x, Value.slice wA wn wc, Value.slice wB wm wd, Value.int IntKind.i64 p] 35)) (Obj.cells #[Value.int IntKind.i64 3, Value.int IntKind.i64 (je : Int), Value.int IntKind.i64 0] 26)
                  have q0 := blk_cell hset 0
                  have q1 := blk_cell hset 1
                  have q2 := blk_cell hset 2
                  have hsz : w.heap.size ≤ w2.heap.size := by rw [HB.out]; omega
                  refine bodyPost_ret (v := .tuple #[.slice none 0 0, .agg #[.int .i64 3, .int .i64 (je : Int), .int .i64 0]]) (by simp [results, Try.results8, go_sem, q0, q1, q2]) rfl ?_
                  exact ⟨rfl, (((three_below HB.out HBEL2.out _ _ _).alloc (by rw [three_size]; exact hsz) _).alloc (by have := three_size w2 B (.int .i64 3) (.int .i64 (je : Int)) (.int .i64 0); simp only [World.alloc, Array.size_push]; omega) _).drew⟩
            | good t je =>
              obtain ⟨a0, a1, rfl, hlit, hm2⟩ := hwd
              obtain ⟨xA, xn, xc, xB, xm, xd, hfm⟩ := lit_form hlit
              cases hfm
              have hst := Kx.word_step (nb_bytes s) (by rw [nb_length]; omega) hq
              rw [nb_length] at hst
              have hRg : Kx.lexAt f (nb s) je (ts ++ [t]) = R := by rw [HRj.out, if_neg h2048, hq]
              have hg1 : g < w1.heap.size := blk_lt HM1.out.2
              have hown2 := own_grown HOWN1.out hm2.1 (by omega)
              have hsz2 := hm2.1.size
              have HRG := Lib.hid hRg
              have HM2 := Lib.hid hm2
              have HLIT := Lib.hid hlit
              have HOWN2 := Lib.hid hown2
              have htok := Lib.hid (tok_one t hlit)
              clear hRg hm2 hlit hown2 hq
              have hn8 : ts.length ≤ 8192 := by have := HTS.out; omega
              have HST := Lib.hid hst
              clear hst
              have hnew := World.news_of_block (cs := (tokCells t (.slice xA xn xc) (.slice xB xm xd)).toArray) (t := 35) (fr := (0, 0)) (heap_alloc_new ((w2.alloc (Obj.cells (tokCells t (.slice xA xn xc) (.slice xB xm xd)).toArray 35)).alloc (Obj.cells #[Value.int IntKind.i64 0, Value.int IntKind.i64 0, Value.int IntKind.i64 0] 26)) (Obj.cells (tokCells t (.slice xA xn xc) (.slice xB xm xd)).toArray 35))
              rw [show ((w2.alloc (Obj.cells (tokCells t (.slice xA xn xc) (.slice xB xm xd)).toArray 35)).alloc (Obj.cells #[Value.int IntKind.i64 0, Value.int IntKind.i64 0, Value.int IntKind.i64 0] 26)).heap.size = w2.heap.size + 1 + 1 by simp] at hnew
              have HNEW := Lib.hid hnew
              clear hnew
              dsimp only [tokVal, faultVal]
              go_wp2_with
                (at_builtin; refine wpList_append_lies _ rfl (.tmp 60) (.tmp 62) 23 rfl (g + 1) 35 i0 _ 5 80 Try.underlying23 hi0 hz0 hz1 hz2 rfl (by omega) (.slice vA ts.length vc) ts.length vs rfl (((HOWN2.out.alloc (Obj.cells (tokCells t (.slice xA xn xc) (.slice xB xm xd)).toArray 35)).alloc _).alloc _)
                    ⟨w2.heap.size + 1 + 1, 0, none⟩ 1 1 (tokCells t (.slice xA xn xc) (.slice xB xm xd)) rfl rfl HNEW.out htok.out (by omega) (by unfold maxLen; omega) (by omega) (by simp; omega) (w2.heap.size + 1 + 1 + 1) (by simp) ?_; intro gg cap w5 hown5 hgrow hat5 hlt5; have HP := Lib.hid (lex_push (cap := cap) HB.out hgB HBEL1.out HR1.out HOWN1.out HTK1.out hg1 HM2.out HLIT.out ((((Below.refl _ w2).alloc (Nat.le_refl _) (Obj.cells (tokCells t (.slice xA xn xc) (.slice xB xm xd)).toArray 35)).alloc (by simp) _).alloc (by simp; omega) _) hgrow (by simp) hat5); have HOWN5 := Lib.hid hown5; clear hgrow hat5 hown5)
              go_roundg f
              case rel =>
                have hjj := HJ.out
                refine ⟨je, ts ++ [t], vs ++ tokCells t (.slice xA xn xc) (.slice xB xm xd), HST.out.2.1, by have := HST.out.1; omega, by have := HST.out.1; have := HTS.out; rw [List.length_append]; simp only [List.length_cons, List.length_nil]; omega, HRG.out, HP.out.1, HP.out.2.1, HP.out.2.2.1, ?_, ?_⟩
                · rw [List.length_append]; exact HOWN5.out
                · exact HP.out.2.2.2
              case measure => exact Nat.lt_succ_self f
end Go.Proofs.Ytkghglncmekdgaa
