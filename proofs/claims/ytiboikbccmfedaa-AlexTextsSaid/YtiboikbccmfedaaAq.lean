/- Contract of works: two texts' words are what they are. Conditions: the library's variable holds an int. -/
import Derived.Test.YtiboikbccmfedaaAp
import Derived.Test.YtiboikbccmfedaaKo
namespace Go.Proofs.Ytiboikbccmfedaa
open Go.RowKit

theorem lex_w1 : Kx.lex (nb ⟨#[97, 226, 134, 144, 226, 141, 179, 32, 49, 32, 194, 175, 50, 32, 226, 141, 157, 32, 120]⟩) = .good [⟨3, [97], ⟨[], []⟩, 0⟩, ⟨7, [226, 134, 144], ⟨[], []⟩, 1⟩, ⟨4, [226, 141, 179], ⟨[], []⟩, 4⟩, ⟨1, [], ⟨[2], [(0, 1), (0, -2)]⟩, 8⟩] := by
  rw [show nb ⟨#[97, 226, 134, 144, 226, 141, 179, 32, 49, 32, 194, 175, 50, 32, 226, 141, 157, 32, 120]⟩ = [97, 226, 134, 144, 226, 141, 179, 32, 49, 32, 194, 175, 50, 32, 226, 141, 157, 32, 120] from rfl]
  decide +kernel
theorem lex_w3 : Kx.lex (nb ⟨#[49, 32, 39, 97]⟩) = .bad 2 2 := by
  rw [show nb ⟨#[49, 32, 39, 97]⟩ = [49, 32, 39, 97] from rfl]
  decide +kernel

/-- a text's words, in memory that has grown -/
def ToksIn (w : World) (A : Option Addr) (ts : List Kx.Tok) : Prop := ∃ vs, RowIn (fun _ => True) w A vs ∧ ToksAt (fun _ => True) w vs ts
theorem ToksIn.of {S T : Nat → Prop} {w : World} {A : Option Addr} {vs : List Value} {ts : List Kx.Tok} (h1 : RowIn S w A vs) (h2 : ToksAt T w vs ts) : ToksIn w A ts :=
  ⟨vs, h1.mono (Nat.le_refl _) (fun _ _ _ => ⟨trivial, rfl⟩), h2.mono (Nat.le_refl _) (fun _ _ _ => ⟨trivial, rfl⟩)⟩
theorem ToksIn.below {w w' : World} {A : Option Addr} {ts : List Kx.Tok} (h : ToksIn w A ts) (hb : Below w.heap.size w w') : ToksIn w' A ts := by
  obtain ⟨vs, h1, h2⟩ := h
  exact ⟨vs, h1.mono hb.size (fun b _ hlt => ⟨trivial, hb.block b hlt⟩), h2.mono hb.size (fun b _ hlt => ⟨trivial, hb.block b hlt⟩)⟩
theorem toks_cells {S : Nat → Prop} {w : World} : ∀ {vs : List Value} {ts : List Kx.Tok} (i : Nat) (t : Kx.Tok), ToksAt S w vs ts → ts[i]? = some t → ∃ a0 a1, LitAt S w (.agg #[a0, a1]) t.lit ∧ vs[i * 5]? = some (.int .i64 t.kind) ∧ vs[i * 5 + 1]? = some (.string (strOfNums t.text)) ∧ vs[i * 5 + 2]? = some a0 ∧ vs[i * 5 + 3]? = some a1 ∧ vs[i * 5 + 4]? = some (.int .i64 (t.at_ : Int))
  | _, [], i, t, _, h => by simp at h
  | _, u :: ts, 0, t, h, hi => by
    obtain ⟨a0, a1, rest, rfl, h2, _⟩ := h
    simp at hi
    subst hi
    exact ⟨a0, a1, h2, rfl, rfl, rfl, rfl, rfl⟩
  | _, u :: ts, i + 1, t, h, hi => by
    obtain ⟨a0, a1, rest, rfl, _, h3⟩ := h
    obtain ⟨b0, b1, k1, k2, k3, k4, k5, k6⟩ := toks_cells i t h3 (by simpa using hi)
    refine ⟨b0, b1, k1, ?_, ?_, ?_, ?_, ?_⟩
    · rw [show (i + 1) * 5 = i * 5 + 5 by omega]; simpa [tokCells] using k2
    · rw [show (i + 1) * 5 + 1 = i * 5 + 1 + 5 by omega]; simpa [tokCells] using k3
    · rw [show (i + 1) * 5 + 2 = i * 5 + 2 + 5 by omega]; simpa [tokCells] using k4
    · rw [show (i + 1) * 5 + 3 = i * 5 + 3 + 5 by omega]; simpa [tokCells] using k5
    · rw [show (i + 1) * 5 + 4 = i * 5 + 4 + 5 by omega]; simpa [tokCells] using k6
/-- one word, as it reads in memory -/
theorem ToksIn.at {w : World} {A : Option Addr} {ts : List Kx.Tok} (h : ToksIn w A ts) {i : Nat} {t : Kx.Tok} (hi : ts[i]? = some t) : ∃ b p n c q m d, A = some ⟨b, 0, none⟩ ∧ b < w.heap.size ∧ LitAt (fun _ => True) w (.agg #[.slice p n c, .slice q m d]) t.lit ∧ w.cell? ⟨b, i * 5, none⟩ = some (.int .i64 t.kind) ∧ w.cell? ⟨b, i * 5 + 1, none⟩ = some (.string (strOfNums t.text)) ∧ w.cell? ⟨b, i * 5 + 2, none⟩ = some (.slice p n c) ∧ w.cell? ⟨b, i * 5 + 3, none⟩ = some (.slice q m d) ∧ w.cell? ⟨b, i * 5 + 4, none⟩ = some (.int .i64 (t.at_ : Int)) := by
  obtain ⟨vs, h1, h2⟩ := h
  obtain ⟨a0, a1, k1, k2, k3, k4, k5, k6⟩ := toks_cells i t h2 hi
  obtain ⟨b, e, _, hb, hc⟩ := h1 (by have := (List.getElem?_eq_some_iff.1 k2).1; omega)
  obtain ⟨p, n, c, q, m, d, hf⟩ := lit_form k1
  cases hf
  exact ⟨b, p, n, c, q, m, d, e, hb, k1, hc _ _ k2, hc _ _ k3, hc _ _ k4, hc _ _ k5, hc _ _ k6⟩

/-- what Lex gives where there are words -/
def LexGood (ts : List Kx.Tok) (w : World) (e : Ending) (w' : World) : Prop := ∃ A c, e = .returned (.tuple #[.slice A ts.length c, .agg #[.int .i64 0, .int .i64 0, .int .i64 0]]) ∧ ToksIn w' A ts ∧ ts.length ≤ 8192 ∧ ts.length ≤ c ∧ Below w.heap.size w w'
def LexBad (er : Int) (j : Nat) (w : World) (e : Ending) (w' : World) : Prop := e = .returned (.tuple #[.slice none 0 0, .agg #[.int .i64 er, .int .i64 (j : Int), .int .i64 0]]) ∧ Below w.heap.size w w'
theorem lex_good {s : ByteArray} {ts : List Kx.Tok} (h : Kx.lex (nb s) = .good ts) (w : World) (hg : Glob w) : Calls Try.prog 6 #[.string s] w (LexGood ts w) :=
  (lex_any s w hg).mono (by
    rw [h]
    rintro e w' ⟨A, c, vs, rfl, h1, h2, h3, h4, h5⟩
    exact ⟨A, c, rfl, .of h1 h2, h3, h4, h5⟩)
theorem lex_bad {s : ByteArray} {er : Int} {j : Nat} (h : Kx.lex (nb s) = .bad er j) (w : World) (hg : Glob w) : Calls Try.prog 6 #[.string s] w (LexBad er j w) :=
  (lex_any s w hg).mono (by
    rw [h]
    rintro e w' ⟨rfl, h1⟩
    exact ⟨rfl, h1⟩)

theorem two_row (W : World) (a b : Int) (t : TypeId) : RowAt .i64 (W.alloc (Obj.cells #[.int .i64 a, .int .i64 b] t)) (some ⟨W.heap.size, 0, none⟩) [a, b] := by
  refine ⟨by simp, fun _ => ⟨W.heap.size, 0, rfl, fun i hi => ?_⟩⟩
  have h := blk_new W (Obj.cells #[.int .i64 a, .int .i64 b] t)
  rcases i with _ | _ | i
  · exact blk_cell h 0
  · exact blk_cell h 1
  · exact absurd hi (by simp)

theorem iota_str : strOfNums [226, 141, 179] = ⟨#[226, 141, 179]⟩ := by rfl
set_option maxRecDepth 100000 in
set_option maxHeartbeats 4000000 in
theorem works_any (w : World) (hgb : Glob w) : Calls Try.prog 7 #[] w (fun e w' => e = .returned (.bool true) ∧ Below w.heap.size w w') := by
  have HGB := Lib.hid hgb
  clear hgb
  go_enter Try.func7, Try.ntmps7
  go_wp2_with fail
  refine (lex_good lex_w1 _ HGB.out).mono ?_
  rintro e w1 ⟨A, c, rfl, ht, -, hc, hb⟩
  have hc5 : 4 ≤ c := hc
  have HT := Lib.hid ht
  have HB := Lib.hid hb
  clear ht hb hc
  simp only [List.length_cons, List.length_nil, Nat.zero_add, Nat.reduceAdd]
  go_wp2_with fail
  refine (lex_bad lex_w3 _ ((HGB.out.below HB.out).below ((Below.refl _ _).alloc (Nat.le_refl _) _))).mono ?_
  rintro e w3 ⟨rfl, hb3⟩
  generalize hF1 : (Obj.cells #[Value.int IntKind.i64 0, Value.int IntKind.i64 0, Value.int IntKind.i64 0] 25) = F1 at *
  have HB3 := Lib.hid hb3
  clear hb3
  have k1 : Below w1.heap.size w1 (w1.alloc F1) := (Below.refl _ _).alloc (Nat.le_refl _) _
  have m1 := blk_new w1 F1
  have m1x := blk_below m1 HB3.out (by simp)
  have b3 : Below w1.heap.size w1 w3 := below_then k1 k1.size HB3.out
  have BB := Lib.hid (below_then HB.out HB.out.size b3)
  have TT := Lib.hid (HT.out.below b3)
  have l12 : w1.heap.size < w3.heap.size := blk_lt m1x
  clear k1 m1 b3
  generalize w1.heap.size = g1 at *
  subst hF1
  have M1 := Lib.hid m1x
  clear m1x
  clear HT HB HB3
  go_wp2
  generalize hF1 : (Obj.cells #[Value.int IntKind.i64 0, Value.int IntKind.i64 0, Value.int IntKind.i64 0] 25) = F0 at *
  generalize hF3 : (Obj.cells #[Value.int IntKind.i64 2, Value.int IntKind.i64 2, Value.int IntKind.i64 0] 25) = F3 at *
  obtain ⟨W, hW⟩ : ∃ W, w3.alloc F3 = W := ⟨_, rfl⟩
  have hb : Below w3.heap.size w3 W := by rw [← hW]; exact (Below.refl _ _).alloc (Nat.le_refl _) _
  have a1 := blk_below M1.out hb l12
  have a3 : W.heap[w3.heap.size]? = some F3 := by rw [← hW]; exact blk_new w3 F3
  subst hF1 hF3
  have e10 := blk_cell a1 0
  have e30 := blk_cell a3 0
  have e31 := blk_cell a3 1
  have hTW := TT.out.below hb
  obtain ⟨bk, _, _, _, _, _, _, rfl, hlt, _, ck, _, _, _, _⟩ := hTW.at (i := 1) rfl
  obtain ⟨bk', _, _, _, _, _, _, hbk', _, _, _, cx, _, _, _⟩ := hTW.at (i := 2) rfl
  cases hbk'
  obtain ⟨bk', sp, sn, sc, sq, sm, sd, hbk, _, hlit, _, _, c2', c3', _⟩ := hTW.at (i := 3) rfl
  cases hbk
  dsimp only at cx
  rw [iota_str] at cx
  have BW := Lib.hid (below_then BB.out BB.out.size hb)
  have L := Lib.hid hlit
  have A3' := Lib.hid a3
  have hg3 := blk_lt a3
  clear hb hTW hlit a1 a3
  rw [hW]
  generalize w3.heap.size = g3 at *
  clear hW TT M1 BB
  simp only [Nat.reduceMul, Nat.reduceAdd] at ck c2' c3' cx
  have E0 := Lib.hid (show ∀ w', Below W.heap.size W w' → w'.cell? ⟨g1, 0, none⟩ = some (.int .i64 0) ∧ w'.cell? ⟨g3, 0, none⟩ = some (.int .i64 2) ∧ w'.cell? ⟨g3, 1, none⟩ = some (.int .i64 2) ∧ w'.cell? ⟨bk, 5, none⟩ = some (.int .i64 7) ∧ w'.cell? ⟨bk, 11, none⟩ = some (.string ⟨#[226, 141, 179]⟩) ∧ w'.cell? ⟨bk, 17, none⟩ = some (.slice sp sn sc) ∧ w'.cell? ⟨bk, 18, none⟩ = some (.slice sq sm sd) from
    fun w' h => ⟨(cell_below h e10), (cell_below h e30), (cell_below h e31), (cell_below h ck), (cell_below h cx), (cell_below h c2'), (cell_below h c3')⟩)
  go_region_held3 (fun w' => w'.cell? ⟨g1, 0, none⟩ = some (.int .i64 0) ∧ w'.cell? ⟨g3, 0, none⟩ = some (.int .i64 2) ∧ w'.cell? ⟨g3, 1, none⟩ = some (.int .i64 2) ∧ w'.cell? ⟨bk, 5, none⟩ = some (.int .i64 7) ∧ w'.cell? ⟨bk, 11, none⟩ = some (.string ⟨#[226, 141, 179]⟩) ∧ w'.cell? ⟨bk, 17, none⟩ = some (.slice sp sn sc) ∧ w'.cell? ⟨bk, 18, none⟩ = some (.slice sq sm sd))
    (first | go_keep | exact E0.out _ H6.out | exact E0.out _ H5.out | exact E0.out _ (Below.refl _ _).drew | exact E0.out _ ((Below.refl _ _).alloc (Nat.le_refl _) _).drew)
    (first
      | (go_at_call 15; (with_reducible refine (rnums_any _ 2 2 [1, -2] _ ((two_row W 1 (-2) 2).below (Below.refl _ _).drew) rfl (by omega)).mono ?_); rintro e w5 ⟨v5, rfl, hl5, hb5⟩; obtain ⟨yA, yn, yc, yB, ym, yd, hv5⟩ := lit_form hl5; cases hv5; have HL5 := Lib.hid hl5; have H5 := Lib.hid (below_then ((Below.refl _ W).alloc (Nat.le_refl _) _).drew (by simp) hb5); clear hl5 hb5)
      | (go_at_call 11; (with_reducible refine (same_same (t := ⟨[2], [(0, 1), (0, -2)]⟩) _ (L.out.below H5.out) HL5.out).mono ?_); rintro e w6 ⟨rfl, hb6⟩; have H6 := Lib.hid (below_then H5.out H5.out.size hb6); clear hb6))
  all_goals
    go_wp2
    refine bodyPost_ret (v := .bool true) (by simp [results, Try.results7, go_sem]) rfl ?_
    exact ⟨rfl, below_then BW.out BW.out.size H6.out⟩
end Go.Proofs.Ytiboikbccmfedaa
