/- Contract of the lexer's word. Conditions: the lexer's block reads in memory; its place lies within the text. -/
import Derived.Test.YtkghglncmekdgaaKk
namespace Go.Proofs.Ytkghglncmekdgaa
open Go.RowKit

/-- a word as it is handed on -/
def tokVal (t : Kx.Tok) (a0 a1 : Value) : Value := .agg #[.int .i64 t.kind, .string (strOfNums t.text), a0, a1, .int .i64 (t.at_ : Int)]
def faultVal (e : Int) (j : Int) : Value := .agg #[.int .i64 e, .int .i64 j, .int .i64 0]
def WordIs (R : Kx.Word) (g : Nat) (s : ByteArray) (w : World) (e : Ending) (w' : World) : Prop :=
  match R with
  | .bad er j => ∃ (k : Int) (x : ByteArray) (A : Option Addr) (n c : Nat) (B : Option Addr) (m d : Nat) (p : Int), e = .returned (.tuple #[.agg #[.int .i64 k, .string x, .slice A n c, .slice B m d, .int .i64 p], faultVal er (j : Int)]) ∧ ∃ k, Moves g s k w w'
  | .good t j => ∃ a0 a1, e = .returned (.tuple #[tokVal t a0 a1, faultVal 0 0]) ∧ LitAt (w.heap.size ≤ ·) w' (.agg #[a0, a1]) t.lit ∧ Moves g s j w w'

/-- a word and a fault are laid into the results' variables -/
def eightSet (w : World) (B : Nat) (a0 a1 a2 a3 a4 v0 v1 v2 : Value) : World :=
  (((((((w.setCell ⟨B, 0, none⟩ a0).setCell ⟨B, 1, none⟩ a1).setCell ⟨B, 2, none⟩ a2).setCell ⟨B, 3, none⟩ a3).setCell ⟨B, 4, none⟩ a4).setCell ⟨B + 1, 0, none⟩ v0).setCell ⟨B + 1, 1, none⟩ v1).setCell ⟨B + 1, 2, none⟩ v2
theorem eight_cells {w : World} {B : Nat} {o0 o1 o2 o3 o4 p0 p1 p2 : Value} (h0 : w.heap[B]? = some (.cells #[o0, o1, o2, o3, o4] 35 (0, 0))) (h1 : w.heap[B + 1]? = some (.cells #[p0, p1, p2] 26 (0, 0))) (a0 a1 a2 a3 a4 v0 v1 v2 : Value) :
    (eightSet w B a0 a1 a2 a3 a4 v0 v1 v2).cell? ⟨B, 0, none⟩ = some a0 ∧ (eightSet w B a0 a1 a2 a3 a4 v0 v1 v2).cell? ⟨B, 1, none⟩ = some a1 ∧ (eightSet w B a0 a1 a2 a3 a4 v0 v1 v2).cell? ⟨B, 2, none⟩ = some a2 ∧ (eightSet w B a0 a1 a2 a3 a4 v0 v1 v2).cell? ⟨B, 3, none⟩ = some a3 ∧ (eightSet w B a0 a1 a2 a3 a4 v0 v1 v2).cell? ⟨B, 4, none⟩ = some a4 ∧ (eightSet w B a0 a1 a2 a3 a4 v0 v1 v2).cell? ⟨B + 1, 0, none⟩ = some v0 ∧ (eightSet w B a0 a1 a2 a3 a4 v0 v1 v2).cell? ⟨B + 1, 1, none⟩ = some v1 ∧ (eightSet w B a0 a1 a2 a3 a4 v0 v1 v2).cell? ⟨B + 1, 2, none⟩ = some v2 := by
  have g0 := blk_set (blk_set (blk_set (blk_set (blk_set h0 0 a0) 1 a1) 2 a2) 3 a3) 4 a4
  have g1 := blk_far (p := ⟨B + 1, 2, none⟩) (blk_far (p := ⟨B + 1, 1, none⟩) (blk_far (p := ⟨B + 1, 0, none⟩) g0 (by simp) v0) (by simp) v1) (by simp) v2
  have g2 := blk_set (blk_set (blk_set (blk_far (p := ⟨B, 4, none⟩) (blk_far (p := ⟨B, 3, none⟩) (blk_far (p := ⟨B, 2, none⟩) (blk_far (p := ⟨B, 1, none⟩) (blk_far (p := ⟨B, 0, none⟩) h1 (by simp) a0) (by simp) a1) (by simp) a2) (by simp) a3) (by simp) a4) 0 v0) 1 v1) 2 v2
  refine ⟨(blk_cell g1 0).trans ?_, (blk_cell g1 1).trans ?_, (blk_cell g1 2).trans ?_, (blk_cell g1 3).trans ?_, (blk_cell g1 4).trans ?_, (blk_cell g2 0).trans ?_, (blk_cell g2 1).trans ?_, (blk_cell g2 2).trans ?_⟩ <;> simp
theorem eight_moves {g : Nat} {s : ByteArray} {k : Nat} {w w' : World} (h : Moves g s k w w') (hg : g < w.heap.size) (a0 a1 a2 a3 a4 v0 v1 v2 : Value) : Moves g s k w (eightSet w' w.heap.size a0 a1 a2 a3 a4 v0 v1 v2) :=
  moves_old (moves_old (moves_old (moves_old (moves_old (moves_old (moves_old (moves_old h (Nat.le_refl _) hg 0 a0) (Nat.le_refl _) hg 1 a1) (Nat.le_refl _) hg 2 a2) (Nat.le_refl _) hg 3 a3) (Nat.le_refl _) hg 4 a4) (Nat.le_succ _) hg 0 v0) (Nat.le_succ _) hg 1 v1) (Nat.le_succ _) hg 2 v2
theorem lit_store8 {n : Nat} {w5 : World} {B : Nat} {v a0 a1 a2 a3 a4 v0 v1 v2 : Value} {t : Kx.Lit} (h : LitAt (n ≤ ·) w5 v t) (hw : B + 1 < n) : LitAt (B ≤ ·) (eightSet w5 B a0 a1 a2 a3 a4 v0 v1 v2) v t := by
  refine h.mono (by simp [eightSet, World.setCell]) (fun b (hS : n ≤ b) hb => ⟨Nat.le_trans (by omega) hS, ?_⟩)
  unfold eightSet
  have q : ∀ (W : World) (p : Addr) (u : Value), p.block ≤ B + 1 → (W.setCell p u).heap[b]? = W.heap[b]? := fun W p u hp => Below.heap_setCell W p u b (by omega)
  rw [q _ _ _ (by simp), q _ _ _ (by simp), q _ _ _ (by simp), q _ _ _ (by simp), q _ _ _ (by simp), q _ _ _ (by simp), q _ _ _ (by simp), q _ _ _ (by simp)]

theorem lit_far {n : Nat} {w5 : World} {v u : Value} {t : Kx.Lit} {p : Addr} (h : LitAt (n ≤ ·) w5 v t) (hp : p.block < n) : LitAt (n ≤ ·) (w5.setCell p u) v t :=
  h.mono (by simp [World.setCell]) (fun b (hS : n ≤ b) hb => ⟨hS, Below.heap_setCell w5 p u b (by omega)⟩)
theorem lit_alloc {S : Nat → Prop} {w5 : World} {v : Value} {t : Kx.Lit} (h : LitAt S w5 v t) (o : Obj) : LitAt S (w5.alloc o) v t := h.below ((Below.refl _ _).alloc (Nat.le_refl _) o)
theorem lit_drew {S : Nat → Prop} {w5 : World} {v : Value} {t : Kx.Lit} (h : LitAt S w5 v t) : LitAt S w5.drew v t := h.below (Below.refl _ _).drew
theorem moves_alloc {g : Nat} {s : ByteArray} {k : Nat} {w w' : World} (h : Moves g s k w w') (o : Obj) : Moves g s k w (w'.alloc o) := moves_below h ((Below.refl _ _).alloc (Nat.le_refl _) o)

theorem while_alnum (g : Nat) (s : ByteArray) (i : Nat) (w : World) (hg : w.heap[g]? = some (lcell s i)) (hi : i ≤ s.size) (hs : s.size ≤ 100000) :
    Calls Try.prog 15 #[.pointer (some ⟨g, 0, none⟩), .func (.func 26) #[] #[]] w (WhileTo g s i Kx.alnum w) :=
  while_any 26 Kx.alnum (enters_of Try.func26 (by kernel_rfl) rfl) alnum_any g s i w hg hi hs
theorem alnum_ascii (c : Int) (h : Kx.alnum c = true) : 48 ≤ c ∧ c ≤ 122 := by
  simp only [Kx.alnum, Kx.low, Kx.dig, Bool.or_eq_true, Bool.and_eq_true, decide_eq_true_eq] at h
  omega

theorem one_here (s : ByteArray) (at_ : Nat) (sub : ByteArray) (wr W : World) (x k : Int) (hs : s.size ≤ 100000) (hsub : nb sub = (nb s).drop at_) (h1 : Spec.one ((nb s).drop at_) = (x, k)) (hB : Below wr.heap.size wr W) (hz : W.heap.size = wr.heap.size) :
    Calls Try.prog 21 #[.slice (some ⟨wr.heap.size, 0, none⟩) sub.size (grownCap W sub.size 0 5)] (Lib.bytesWorld W 5 sub) (TwoTo x k wr) := by
  have hsz : sub.size ≤ 1000000 := by rw [← nb_length, hsub, List.length_drop, nb_length]; omega
  obtain ⟨_, hrow, hbel, hcap⟩ := conv_all sub hsz W
  rw [hz] at hrow hbel
  refine (one_any _ _ _ (nb sub) _ hrow (nb_length sub) hcap (nb_bytes sub)).mono ?_
  rintro e w' ⟨rfl, hb⟩
  rw [hsub, h1]
  exact ⟨rfl, below_then (hB.trans hbel) (Nat.le_trans hB.size (by have := hbel.size; omega)) hb⟩

set_option maxRecDepth 100000 in
set_option maxHeartbeats 4000000 in
theorem word_lex (g : Nat) (s : ByteArray) (i : Nat) (w : World) (hg : w.heap[g]? = some (lcell s i)) (hi : i < s.size) (hs : s.size ≤ 100000) :
    Calls Try.prog 18 #[.pointer (some ⟨g, 0, none⟩)] w (WordIs (Kx.wordAt (nb s) i) g s w) := by
  have hgl := blk_lt hg
  have H := Lib.hid hg
  have c0 := blk_cell hg 0
  have c1 := blk_cell hg 1
  have hnl := nb_length s
  obtain ⟨R, hR⟩ : ∃ R, Kx.wordAt (nb s) i = R := ⟨_, rfl⟩
  rw [hR]
  have hsub := extract_end s i (by omega)
  obtain ⟨sub, hsb⟩ : ∃ sub, strOfNums ((nb s).drop i) = sub := ⟨_, rfl⟩
  rw [hsb] at hsub
  have hsz : sub.size = s.size - i := by rw [← hsb, strOfNums_size, List.length_drop, hnl]
  have hnbs : nb sub = (nb s).drop i := by rw [← hsb]; exact nb_str _ (fun x hx => nb_bytes s x (List.mem_of_mem_drop hx))
  have hcv := fun W => (conv_all sub (by omega) W).1
  have hgl1 : g < w.heap.size + 1 := by omega
  have hgl2 : g < w.heap.size + 1 + 1 := by omega
  have hgl3 : g < w.heap.size + 1 + 1 + 1 := by omega
  clear hg
  go_enter Try.func18, Try.ntmps18
  go_wp2
  have hmv : Moves g s i w ((((w.alloc (Obj.cells #[Value.int IntKind.i64 0, Value.string { data := #[] }, Value.slice none 0 0, Value.slice none 0 0, Value.int IntKind.i64 0] 35)).alloc (Obj.cells #[Value.int IntKind.i64 0, Value.int IntKind.i64 0, Value.int IntKind.i64 0] 26)).alloc (Obj.cells #[Value.int IntKind.i64 0, Value.string { data := #[] }, Value.slice none 0 0, Value.slice none 0 0, Value.int IntKind.i64 ↑i] 35)).alloc (Obj.cells #[Value.int IntKind.i64 2, Value.int IntKind.i64 ↑i, Value.int IntKind.i64 0] 26)) :=
    moves_below (moves_refl H.out) (((((Below.refl _ _).alloc (Nat.le_refl _) _).alloc (by simp) _).alloc (by simp; omega) _).alloc (by simp; omega) _)
  have b0 := blk_alloc (blk_alloc (blk_alloc (blk_new w (Obj.cells #[Value.int IntKind.i64 0, Value.string { data := #[] }, Value.slice none 0 0, Value.slice none 0 0, Value.int IntKind.i64 0] 35)) (Obj.cells #[Value.int IntKind.i64 0, Value.int IntKind.i64 0, Value.int IntKind.i64 0] 26)) (Obj.cells #[Value.int IntKind.i64 0, Value.string { data := #[] }, Value.slice none 0 0, Value.slice none 0 0, Value.int IntKind.i64 ↑i] 35)) (Obj.cells #[Value.int IntKind.i64 2, Value.int IntKind.i64 ↑i, Value.int IntKind.i64 0] 26)
  have b1 := blk_alloc (blk_alloc (blk_new (w.alloc (Obj.cells #[Value.int IntKind.i64 0, Value.string { data := #[] }, Value.slice none 0 0, Value.slice none 0 0, Value.int IntKind.i64 0] 35)) (Obj.cells #[Value.int IntKind.i64 0, Value.int IntKind.i64 0, Value.int IntKind.i64 0] 26)) (Obj.cells #[Value.int IntKind.i64 0, Value.string { data := #[] }, Value.slice none 0 0, Value.slice none 0 0, Value.int IntKind.i64 ↑i] 35)) (Obj.cells #[Value.int IntKind.i64 2, Value.int IntKind.i64 ↑i, Value.int IntKind.i64 0] 26)
  have b2 := blk_alloc (blk_new ((w.alloc (Obj.cells #[Value.int IntKind.i64 0, Value.string { data := #[] }, Value.slice none 0 0, Value.slice none 0 0, Value.int IntKind.i64 0] 35)).alloc (Obj.cells #[Value.int IntKind.i64 0, Value.int IntKind.i64 0, Value.int IntKind.i64 0] 26)) (Obj.cells #[Value.int IntKind.i64 0, Value.string { data := #[] }, Value.slice none 0 0, Value.slice none 0 0, Value.int IntKind.i64 ↑i] 35)) (Obj.cells #[Value.int IntKind.i64 2, Value.int IntKind.i64 ↑i, Value.int IntKind.i64 0] 26)
  have b3 := blk_new (((w.alloc (Obj.cells #[Value.int IntKind.i64 0, Value.string { data := #[] }, Value.slice none 0 0, Value.slice none 0 0, Value.int IntKind.i64 0] 35)).alloc (Obj.cells #[Value.int IntKind.i64 0, Value.int IntKind.i64 0, Value.int IntKind.i64 0] 26)).alloc (Obj.cells #[Value.int IntKind.i64 0, Value.string { data := #[] }, Value.slice none 0 0, Value.slice none 0 0, Value.int IntKind.i64 ↑i] 35)) (Obj.cells #[Value.int IntKind.i64 2, Value.int IntKind.i64 ↑i, Value.int IntKind.i64 0] 26)
  rw [show (w.alloc (Obj.cells #[Value.int IntKind.i64 0, Value.string { data := #[] }, Value.slice none 0 0, Value.slice none 0 0, Value.int IntKind.i64 0] 35)).heap.size = w.heap.size + 1 by simp] at b1
  rw [show ((w.alloc (Obj.cells #[Value.int IntKind.i64 0, Value.string { data := #[] }, Value.slice none 0 0, Value.slice none 0 0, Value.int IntKind.i64 0] 35)).alloc (Obj.cells #[Value.int IntKind.i64 0, Value.int IntKind.i64 0, Value.int IntKind.i64 0] 26)).heap.size = w.heap.size + 1 + 1 by simp] at b2
  rw [show (((w.alloc (Obj.cells #[Value.int IntKind.i64 0, Value.string { data := #[] }, Value.slice none 0 0, Value.slice none 0 0, Value.int IntKind.i64 0] 35)).alloc (Obj.cells #[Value.int IntKind.i64 0, Value.int IntKind.i64 0, Value.int IntKind.i64 0] 26)).alloc (Obj.cells #[Value.int IntKind.i64 0, Value.string { data := #[] }, Value.slice none 0 0, Value.slice none 0 0, Value.int IntKind.i64 ↑i] 35)).heap.size = w.heap.size + 1 + 1 + 1 by simp] at b3
  generalize (((w.alloc (Obj.cells #[Value.int IntKind.i64 0, Value.string { data := #[] }, Value.slice none 0 0, Value.slice none 0 0, Value.int IntKind.i64 0] 35)).alloc (Obj.cells #[Value.int IntKind.i64 0, Value.int IntKind.i64 0, Value.int IntKind.i64 0] 26)).alloc (Obj.cells #[Value.int IntKind.i64 0, Value.string { data := #[] }, Value.slice none 0 0, Value.slice none 0 0, Value.int IntKind.i64 ↑i] 35)).alloc (Obj.cells #[Value.int IntKind.i64 2, Value.int IntKind.i64 ↑i, Value.int IntKind.i64 0] 26) = wr at hmv b0 b1 b2 b3 ⊢
  have d0 := blk_cell hmv.2 0
  have d1 := blk_cell hmv.2 1
  have HMV := Lib.hid hmv
  have HB0 := Lib.hid b0
  have HB1 := Lib.hid b1
  have HB2 := Lib.hid b2
  have HB3 := Lib.hid b3
  have HR := Lib.hid hR
  clear hmv b0 b1 b2 b3 hR c0 c1 H
  rcases one_cases (l := nb s) (p := i) (by omega) (nb_bytes s) with hone | ⟨x, k, hone, hk1, hk4, hpk, hx⟩
  · have OT := Lib.hid (fun W => one_here s i sub wr W 0 0 hs hnbs hone)
    have hRb : R = .bad 3 i := by rw [← HR.out, Kx.wordAt, hone]; rfl
    subst hRb
    clear hsb hsz hnbs hone HR
    go_region_with (go_at_call 21; refine (OT.out _ (Below.refl _ wr).drew rfl).mono ?_; rintro e w2 ⟨rfl, hb2⟩)
    all_goals
      have h0 := blk_below HB0.out hb2 (blk_lt HB0.out)
      have h1 := blk_below HB1.out hb2 (blk_lt HB1.out)
      have h2 := blk_below HB2.out hb2 (blk_lt HB2.out)
      have h3 := blk_below HB3.out hb2 (blk_lt HB3.out)
      have r0 := blk_cell h0 0
      have rf0 := blk_frozen h0 0
      have r1 := blk_cell h0 1
      have rf1 := blk_frozen h0 1
      have r2 := blk_cell h0 2
      have rf2 := blk_frozen h0 2
      have r3 := blk_cell h0 3
      have rf3 := blk_frozen h0 3
      have r4 := blk_cell h0 4
      have rf4 := blk_frozen h0 4
      have t0 := blk_cell h1 0
      have tf0 := blk_frozen h1 0
      have t1 := blk_cell h1 1
      have tf1 := blk_frozen h1 1
      have t2 := blk_cell h1 2
      have tf2 := blk_frozen h1 2
      have m0 := blk_cell h2 0
      have mf0 := blk_frozen h2 0
      have m1 := blk_cell h2 1
      have mf1 := blk_frozen h2 1
      have m2 := blk_cell h2 2
      have mf2 := blk_frozen h2 2
      have m3 := blk_cell h2 3
      have mf3 := blk_frozen h2 3
      have m4 := blk_cell h2 4
      have mf4 := blk_frozen h2 4
      have n0 := blk_cell h3 0
      have n1 := blk_cell h3 1
      have n2 := blk_cell h3 2
      have e0 := blk_cell (moves_below HMV.out hb2).2 0
      have e1 := blk_cell (moves_below HMV.out hb2).2 1
      have ef := blk_frozen (moves_below HMV.out hb2).2 1
      have HM2 := Lib.hid (moves_below HMV.out hb2)
      have H0 := Lib.hid h0
      have H1 := Lib.hid h1
      have H2 := Lib.hid h2
      have H3 := Lib.hid h3
      clear h0 h1 h2 h3 hb2 d0 d1
      go_wp2
      go_region
    all_goals
      go_wp2
      obtain ⟨q0, q1, q2, q3, q4, q5, q6, q7⟩ := eight_cells H0.out H1.out (.int .i64 0) (.string ⟨#[]⟩) (.slice none 0 0) (.slice none 0 0) (.int .i64 (i : Int)) (.int .i64 3) (.int .i64 (i : Int)) (.int .i64 0)
      unfold eightSet at q0 q1 q2 q3 q4 q5 q6 q7
      refine bodyPost_ret (v := .tuple #[.agg #[.int .i64 0, .string ⟨#[]⟩, .slice none 0 0, .slice none 0 0, .int .i64 (i : Int)], .agg #[.int .i64 3, .int .i64 (i : Int), .int .i64 0]]) (by simp [results, Try.results18, go_sem, q0, q1, q2, q3, q4, q5, q6, q7]) rfl ?_
      exact ⟨_, _, _, _, _, _, _, _, _, rfl, i, moves_drew (eight_moves HM2.out hgl _ _ _ _ _ _ _ _)⟩
  · have OT := Lib.hid (fun W => one_here s i sub wr W x k hs hnbs hone)
    have HONE := Lib.hid hone
    have kz : ((k : Int) == 0) = false := beq_eq_false_iff_ne.2 (by omega)
    have hks : ¬ (Spec.one ((nb s).drop i)).2 = 0 := by rw [hone]; show ¬ (k : Int) = 0; omega
    have HKS := Lib.hid hks
    clear hsb hsz hnbs hone hks
    go_region_with (go_at_call 21; refine (OT.out _ (Below.refl _ wr).drew rfl).mono ?_; rintro e w2 ⟨rfl, hb2⟩)
    all_goals
      have H0 := Lib.hid (blk_below HB0.out hb2 (blk_lt HB0.out))
      have H1 := Lib.hid (blk_below HB1.out hb2 (blk_lt HB1.out))
      have H2 := Lib.hid (blk_below HB2.out hb2 (blk_lt HB2.out))
      have H3 := Lib.hid (blk_below HB3.out hb2 (blk_lt HB3.out))
      have HM2 := Lib.hid (moves_below HMV.out hb2)
      have hsz2 := HM2.out.1.size
      clear hb2 d0 d1 OT hcv
      go_wp2_with fail
      refine (peek_here g s i w2 HM2.out.2 (by omega)).mono ?_
      rintro e w3 ⟨rfl, rfl⟩
      generalize hc : Kx.gt (nb s) i = c
      have HC := Lib.hid hc
      clear hc
      go_wp2_with fail
      refine (begins_any g s i w2 HM2.out.2 (by omega)).mono ?_
      rintro e w3 ⟨rfl, rfl⟩
      cases hbg : Kx.begins (nb s) i
      · by_cases hc34 : c = 34
        · subst hc34
          go_wp2_with fail
          refine (text_lex g s i w2 HM2.out.2 hi hs).mono ?_
          rintro e w3 htx
          generalize hq : Kx.textAt ((nb s).length + 1) (nb s) i (i + 1) [] = q at htx
          cases q with
          | bad er j =>
            obtain ⟨rfl, kk, hm3⟩ := htx
            have hRb : R = .bad er j := by rw [← HR.out, Kx.wordAt, if_neg HKS.out, if_neg (by rw [hbg]; decide), if_pos HC.out, hq]
            subst hRb
            have h0 := blk_grown H0.out hm3.1 (by intro e; cases e; omega)
            have h1 := blk_grown H1.out hm3.1 (by intro e; cases e; omega)
            have h2 := blk_grown H2.out hm3.1 (by intro e; cases e; omega)
            have h3 := blk_grown H3.out hm3.1 (by intro e; cases e; omega)
            have r0 := blk_cell h0 0
            have rf0 := blk_frozen h0 0
            have r1 := blk_cell h0 1
            have rf1 := blk_frozen h0 1
            have r2 := blk_cell h0 2
            have rf2 := blk_frozen h0 2
            have r3 := blk_cell h0 3
            have rf3 := blk_frozen h0 3
            have r4 := blk_cell h0 4
            have rf4 := blk_frozen h0 4
            have t0 := blk_cell h1 0
            have tf0 := blk_frozen h1 0
            have t1 := blk_cell h1 1
            have tf1 := blk_frozen h1 1
            have t2 := blk_cell h1 2
            have tf2 := blk_frozen h1 2
            have m0 := blk_cell h2 0
            have mf0 := blk_frozen h2 0
            have m1 := blk_cell h2 1
            have mf1 := blk_frozen h2 1
            have m2 := blk_cell h2 2
            have mf2 := blk_frozen h2 2
            have m3 := blk_cell h2 3
            have mf3 := blk_frozen h2 3
            have m4 := blk_cell h2 4
            have mf4 := blk_frozen h2 4
            have n0 := blk_cell h3 0
            have n1 := blk_cell h3 1
            have n2 := blk_cell h3 2
            have l0 := blk_lt h0
            have l1 := blk_lt h1
            have l2 := blk_lt h2
            have l3 := blk_lt h3
            have G0 := Lib.hid h0
            have G1 := Lib.hid h1
            have G2 := Lib.hid h2
            have G3 := Lib.hid h3
            clear h0 h1 h2 h3
            have HM3 := Lib.hid (moves_step HM2.out hm3)
            clear hm3 hq
            go_wp2
            go_region
            all_goals
              go_wp2
              go_region
            all_goals
              go_wp2
              obtain ⟨q0, q1, q2, q3, q4, q5, q6, q7⟩ := eight_cells (blk_far (p := ⟨w.heap.size + 1 + 1, 3, none⟩) (blk_far (p := ⟨w.heap.size + 1 + 1, 2, none⟩) (blk_far (p := ⟨w.heap.size + 1 + 1, 0, none⟩) G0.out (by simp; omega) (.int .i64 2)) (by simp; omega) (.slice none 0 0)) (by simp; omega) (.slice none 0 0)) (blk_far (p := ⟨w.heap.size + 1 + 1, 3, none⟩) (blk_far (p := ⟨w.heap.size + 1 + 1, 2, none⟩) (blk_far (p := ⟨w.heap.size + 1 + 1, 0, none⟩) G1.out (by simp) (.int .i64 2)) (by simp) (.slice none 0 0)) (by simp) (.slice none 0 0)) (.int .i64 2) (.string ⟨#[]⟩) (.slice none 0 0) (.slice none 0 0) (.int .i64 (i : Int)) (.int .i64 er) (.int .i64 (j : Int)) (.int .i64 0)
              unfold eightSet at q0 q1 q2 q3 q4 q5 q6 q7
              refine bodyPost_ret (v := .tuple #[.agg #[.int .i64 2, .string ⟨#[]⟩, .slice none 0 0, .slice none 0 0, .int .i64 (i : Int)], .agg #[.int .i64 er, .int .i64 (j : Int), .int .i64 0]]) (by simp [results, Try.results18, go_sem, q0, q1, q2, q3, q4, q5, q6, q7, l0, l1]) rfl ?_
              exact ⟨_, _, _, _, _, _, _, _, _, rfl, _, (moves_drew (moves_drew (moves_alloc (moves_alloc (eight_moves (moves_old (moves_old (moves_old HM3.out (by omega) hgl 0 _) (by omega) hgl 2 _) (by omega) hgl 3 _) hgl _ _ _ _ _ _ _ _) _) _)))⟩
          | good xs j =>
            obtain ⟨v, rfl, hlit, hm3⟩ := htx
            obtain ⟨lA, ln, lc, lB, lm, ld, rfl⟩ := lit_form hlit
            have hRg : R = .good ⟨2, [], Kx.litText xs, i⟩ j := by rw [← HR.out, Kx.wordAt, if_neg HKS.out, if_neg (by rw [hbg]; decide), if_pos HC.out, hq]
            subst hRg
            have h0 := blk_grown H0.out hm3.1 (by intro e; cases e; omega)
            have h1 := blk_grown H1.out hm3.1 (by intro e; cases e; omega)
            have h2 := blk_grown H2.out hm3.1 (by intro e; cases e; omega)
            have h3 := blk_grown H3.out hm3.1 (by intro e; cases e; omega)
            have r0 := blk_cell h0 0
            have rf0 := blk_frozen h0 0
            have r1 := blk_cell h0 1
            have rf1 := blk_frozen h0 1
            have r2 := blk_cell h0 2
            have rf2 := blk_frozen h0 2
            have r3 := blk_cell h0 3
            have rf3 := blk_frozen h0 3
            have r4 := blk_cell h0 4
            have rf4 := blk_frozen h0 4
            have t0 := blk_cell h1 0
            have tf0 := blk_frozen h1 0
            have t1 := blk_cell h1 1
            have tf1 := blk_frozen h1 1
            have t2 := blk_cell h1 2
            have tf2 := blk_frozen h1 2
            have m0 := blk_cell h2 0
            have mf0 := blk_frozen h2 0
            have m1 := blk_cell h2 1
            have mf1 := blk_frozen h2 1
            have m2 := blk_cell h2 2
            have mf2 := blk_frozen h2 2
            have m3 := blk_cell h2 3
            have mf3 := blk_frozen h2 3
            have m4 := blk_cell h2 4
            have mf4 := blk_frozen h2 4
            have n0 := blk_cell h3 0
            have n1 := blk_cell h3 1
            have n2 := blk_cell h3 2
            have l0 := blk_lt h0
            have l1 := blk_lt h1
            have l2 := blk_lt h2
            have l3 := blk_lt h3
            have G0 := Lib.hid h0
            have G1 := Lib.hid h1
            have G2 := Lib.hid h2
            have G3 := Lib.hid h3
            clear h0 h1 h2 h3
            have HM3 := Lib.hid (moves_step HM2.out hm3)
            have HLIT := Lib.hid hlit
            clear hm3 hq hlit
            go_wp2
            go_region
            all_goals
              go_wp2
              go_region
            all_goals
              go_wp2
              obtain ⟨q0, q1, q2, q3, q4, q5, q6, q7⟩ := eight_cells (blk_far (p := ⟨w.heap.size + 1 + 1, 3, none⟩) (blk_far (p := ⟨w.heap.size + 1 + 1, 2, none⟩) (blk_far (p := ⟨w.heap.size + 1 + 1, 0, none⟩) G0.out (by simp; omega) (.int .i64 2)) (by simp; omega) (.slice lA ln lc)) (by simp; omega) (.slice lB lm ld)) (blk_far (p := ⟨w.heap.size + 1 + 1, 3, none⟩) (blk_far (p := ⟨w.heap.size + 1 + 1, 2, none⟩) (blk_far (p := ⟨w.heap.size + 1 + 1, 0, none⟩) G1.out (by simp) (.int .i64 2)) (by simp) (.slice lA ln lc)) (by simp) (.slice lB lm ld)) (.int .i64 2) (.string ⟨#[]⟩) (.slice lA ln lc) (.slice lB lm ld) (.int .i64 (i : Int)) (.int .i64 0) (.int .i64 0) (.int .i64 0)
              unfold eightSet at q0 q1 q2 q3 q4 q5 q6 q7
              refine bodyPost_ret (v := .tuple #[.agg #[.int .i64 2, .string ⟨#[]⟩, .slice lA ln lc, .slice lB lm ld, .int .i64 (i : Int)], .agg #[.int .i64 0, .int .i64 0, .int .i64 0]]) (by simp [results, Try.results18, go_sem, q0, q1, q2, q3, q4, q5, q6, q7, l0, l1]) rfl ?_
              refine ⟨(.slice lA ln lc), (.slice lB lm ld), rfl, ?_, (moves_drew (moves_drew (moves_alloc (moves_alloc (eight_moves (moves_old (moves_old (moves_old HM3.out (by omega) hgl 0 _) (by omega) hgl 2 _) (by omega) hgl 3 _) hgl _ _ _ _ _ _ _ _) _) _)))⟩
              have hB2 := blk_lt H2.out
              exact (lit_drew (lit_drew (lit_alloc (lit_alloc (lit_store8 (lit_far (p := ⟨w.heap.size + 1 + 1, 3, none⟩) (lit_far (p := ⟨w.heap.size + 1 + 1, 2, none⟩) (lit_far (p := ⟨w.heap.size + 1 + 1, 0, none⟩) HLIT.out hB2) hB2) hB2) (by omega)) _) _)))
        · have b34 : (c == 34) = false := beq_eq_false_iff_ne.2 hc34
          go_wp2_with fail
          refine (low_any c _).mono ?_
          rintro e w3 ⟨rfl, hww⟩
          rw [hww]
          clear hww w3
          have hcb := gt_byte s i
          rw [HC.out] at hcb
          cases hl : Kx.low c
          · have hex := extract_nb s i 1
            have htk : ((nb s).drop i).take 1 = [c] := by
              rw [List.drop_eq_getElem_cons (by omega), List.take_succ_cons, List.take_zero]
              congr 1
              have := HC.out
              unfold Kx.gt at this
              rw [List.getD_eq_getElem?_getD, List.getElem?_eq_getElem (by omega)] at this
              exact this
            rw [htk] at hex
            have hwd : R = if Kx.sign c = 0 then .bad 2 i else .good ⟨Kx.sign c, [c], ⟨[], []⟩, i⟩ (i + 1) := by
              rw [← HR.out, Kx.wordAt, if_neg HKS.out, if_neg (by rw [hbg]; decide), HC.out, if_neg hc34, if_neg (by rw [hl]; decide)]
            obtain ⟨sg, hsg⟩ : ∃ sg, Kx.sign c = sg := ⟨_, rfl⟩
            rw [hsg] at hwd
            have HWD := Lib.hid hwd
            have HSG := Lib.hid hsg
            clear hwd hsg
            go_wp2_with fail
            refine (sign_any c hcb.1 hcb.2 _).mono ?_
            rintro e w3 ⟨rfl, hww⟩
            rw [← hww, HSG.out]
            clear hww w3
            have h0 := H0.out
            have h1 := H1.out
            have h2 := H2.out
            have h3 := H3.out
            have r0 := blk_cell h0 0
            have rf0 := blk_frozen h0 0
            have r1 := blk_cell h0 1
            have rf1 := blk_frozen h0 1
            have r2 := blk_cell h0 2
            have rf2 := blk_frozen h0 2
            have r3 := blk_cell h0 3
            have rf3 := blk_frozen h0 3
            have r4 := blk_cell h0 4
            have rf4 := blk_frozen h0 4
            have t0 := blk_cell h1 0
            have tf0 := blk_frozen h1 0
            have t1 := blk_cell h1 1
            have tf1 := blk_frozen h1 1
            have t2 := blk_cell h1 2
            have tf2 := blk_frozen h1 2
            have m0 := blk_cell h2 0
            have mf0 := blk_frozen h2 0
            have m1 := blk_cell h2 1
            have mf1 := blk_frozen h2 1
            have m2 := blk_cell h2 2
            have mf2 := blk_frozen h2 2
            have m3 := blk_cell h2 3
            have mf3 := blk_frozen h2 3
            have m4 := blk_cell h2 4
            have mf4 := blk_frozen h2 4
            have n0 := blk_cell h3 0
            have n1 := blk_cell h3 1
            have n2 := blk_cell h3 2
            have l0 := blk_lt h0
            have l1 := blk_lt h1
            have l2 := blk_lt h2
            have l3 := blk_lt h3
            have G0 := Lib.hid h0
            have G1 := Lib.hid h1
            have G2 := Lib.hid h2
            have G3 := Lib.hid h3
            clear h0 h1 h2 h3
            have c0' := blk_cell HM2.out.2 0
            have c1' := blk_cell HM2.out.2 1
            have cf' := blk_frozen HM2.out.2 1
            clear htk hcb
            by_cases h0 : sg = 0
            · have hRb : R = .bad 2 i := by rw [HWD.out, if_pos h0]
              subst hRb
              subst h0
              go_wp2
              go_region
              all_goals
                go_wp2
                obtain ⟨q0, q1, q2, q3, q4, q5, q6, q7⟩ := eight_cells (blk_far (p := ⟨w.heap.size + 1 + 1, 0, none⟩) G0.out (by simp; omega) (.int .i64 0)) (blk_far (p := ⟨w.heap.size + 1 + 1, 0, none⟩) G1.out (by simp) (.int .i64 0)) (.int .i64 0) (.string ⟨#[]⟩) (.slice none 0 0) (.slice none 0 0) (.int .i64 (i : Int)) (.int .i64 2) (.int .i64 (i : Int)) (.int .i64 0)
                unfold eightSet at q0 q1 q2 q3 q4 q5 q6 q7
                refine bodyPost_ret (v := .tuple #[.agg #[.int .i64 0, .string ⟨#[]⟩, .slice none 0 0, .slice none 0 0, .int .i64 (i : Int)], .agg #[.int .i64 2, .int .i64 (i : Int), .int .i64 0]]) (by simp [results, Try.results18, go_sem, q0, q1, q2, q3, q4, q5, q6, q7]) rfl ?_
                exact ⟨_, _, _, _, _, _, _, _, _, rfl, _, (moves_drew (eight_moves (moves_old HM2.out (by omega) hgl 0 _) hgl _ _ _ _ _ _ _ _))⟩
            · have hRg : R = .good ⟨sg, [c], ⟨[], []⟩, i⟩ (i + 1) := by rw [HWD.out, if_neg h0]
              have b0 : (sg == 0) = false := beq_eq_false_iff_ne.2 h0
              have hi1 : (i : Int) + 1 ≤ (s.size : Int) := by omega
              subst hRg
              obtain ⟨sc, hsc⟩ : ∃ sc, strOfNums [c] = sc := ⟨_, rfl⟩
              rw [hsc] at hex
              have HSC := Lib.hid hsc
              clear hsc
              go_wp2
              go_region
              all_goals
                go_wp2
                have g0 := blk_far (p := ⟨g, 1, none⟩) (blk_far (p := ⟨w.heap.size + 1 + 1, 1, none⟩) (blk_far (p := ⟨w.heap.size + 1 + 1, 0, none⟩) G0.out (by simp; omega) (.int .i64 sg)) (by simp; omega) (.string sc)) (by simp; omega) (.int .i64 ((i : Int) + 1))
                have g1 := blk_far (p := ⟨g, 1, none⟩) (blk_far (p := ⟨w.heap.size + 1 + 1, 1, none⟩) (blk_far (p := ⟨w.heap.size + 1 + 1, 0, none⟩) G1.out (by simp) (.int .i64 sg)) (by simp) (.string sc)) (by simp; omega) (.int .i64 ((i : Int) + 1))
                have hmw := moves_set (moves_old (moves_old HM2.out (B := w.heap.size + 1 + 1) (by omega) hgl 0 (.int .i64 sg)) (B := w.heap.size + 1 + 1) (by omega) hgl 1 (.string sc)) (i + 1)
                rw [show ((i + 1 : Nat) : Int) = (i : Int) + 1 from by omega] at hmw
                obtain ⟨q0, q1, q2, q3, q4, q5, q6, q7⟩ := eight_cells g0 g1 (.int .i64 sg) (.string sc) (.slice none 0 0) (.slice none 0 0) (.int .i64 (i : Int)) (.int .i64 0) (.int .i64 0) (.int .i64 0)
                unfold eightSet at q0 q1 q2 q3 q4 q5 q6 q7
                refine bodyPost_ret (v := .tuple #[.agg #[.int .i64 sg, .string sc, .slice none 0 0, .slice none 0 0, .int .i64 (i : Int)], .agg #[.int .i64 0, .int .i64 0, .int .i64 0]]) (by simp [results, Try.results18, go_sem, q0, q1, q2, q3, q4, q5, q6, q7]) rfl ?_
                refine ⟨.slice none 0 0, .slice none 0 0, by rw [← HSC.out]; rfl, ?_, moves_drew (eight_moves hmw hgl _ _ _ _ _ _ _ _)⟩
                exact ⟨none, 0, 0, none, 0, 0, rfl, rfl, rfl, by omega, by omega, fun h => absurd h (Nat.lt_irrefl 0), fun h => absurd h (Nat.lt_irrefl 0)⟩
          · go_wp2_with fail
            refine (while_alnum g s i w2 HM2.out.2 (by omega) hs).mono ?_
            rintro e w3 ⟨rfl, hm3⟩
            have hall := Kx.span_all Kx.alnum ((nb s).drop i)
            have hspl := Kx.span_le Kx.alnum ((nb s).drop i)
            rw [List.length_drop, nb_length] at hspl
            have hwd : R = if Kx.nameOk (((nb s).drop i).take (Kx.span Kx.alnum ((nb s).drop i))) then .good ⟨3, ((nb s).drop i).take (Kx.span Kx.alnum ((nb s).drop i)), ⟨[], []⟩, i⟩ (i + Kx.span Kx.alnum ((nb s).drop i)) else .bad 2 i := by
              rw [← HR.out, Kx.wordAt, if_neg HKS.out, if_neg (by rw [hbg]; decide), if_neg (by rw [HC.out]; exact hc34), if_pos (by rw [HC.out]; exact hl)]
            generalize hkk : Kx.span Kx.alnum ((nb s).drop i) = kk at *
            generalize htt : ((nb s).drop i).take kk = tx at *
            have hby : Spec.Bytes tx := fun x hx => by have := alnum_ascii x (hall x hx); omega
            have hnb : nb (strOfNums tx) = tx := nb_str tx hby
            have hasc : ∀ (j : Nat) b, (strOfNums tx).data.toList[j]? = some b → b.toNat < 128 := by
              intro j b hb
              rw [strOfNums_data, List.getElem?_map] at hb
              obtain ⟨z, hz, rfl⟩ := Option.map_eq_some_iff.1 hb
              have := alnum_ascii z (hall z (List.mem_of_getElem? hz))
              simp only [UInt8.toNat_ofNat']
              omega
            have htl : tx.length ≤ 100000 := by rw [← htt, List.length_take, List.length_drop, nb_length]; omega
            have htz : (strOfNums tx).size ≤ 100000 := by rw [strOfNums_size]; exact htl
            have h0 := blk_grown H0.out hm3.1 (by intro e; cases e; omega)
            have h1 := blk_grown H1.out hm3.1 (by intro e; cases e; omega)
            have h2 := blk_grown H2.out hm3.1 (by intro e; cases e; omega)
            have h3 := blk_grown H3.out hm3.1 (by intro e; cases e; omega)
            have r0 := blk_cell h0 0
            have rf0 := blk_frozen h0 0
            have r1 := blk_cell h0 1
            have rf1 := blk_frozen h0 1
            have r2 := blk_cell h0 2
            have rf2 := blk_frozen h0 2
            have r3 := blk_cell h0 3
            have rf3 := blk_frozen h0 3
            have r4 := blk_cell h0 4
            have rf4 := blk_frozen h0 4
            have t0 := blk_cell h1 0
            have tf0 := blk_frozen h1 0
            have t1 := blk_cell h1 1
            have tf1 := blk_frozen h1 1
            have t2 := blk_cell h1 2
            have tf2 := blk_frozen h1 2
            have m0 := blk_cell h2 0
            have mf0 := blk_frozen h2 0
            have m1 := blk_cell h2 1
            have mf1 := blk_frozen h2 1
            have m2 := blk_cell h2 2
            have mf2 := blk_frozen h2 2
            have m3 := blk_cell h2 3
            have mf3 := blk_frozen h2 3
            have m4 := blk_cell h2 4
            have mf4 := blk_frozen h2 4
            have n0 := blk_cell h3 0
            have n1 := blk_cell h3 1
            have n2 := blk_cell h3 2
            have l0 := blk_lt h0
            have l1 := blk_lt h1
            have l2 := blk_lt h2
            have l3 := blk_lt h3
            have G0 := Lib.hid h0
            have G1 := Lib.hid h1
            have G2 := Lib.hid h2
            have G3 := Lib.hid h3
            clear h0 h1 h2 h3
            have HM3 := Lib.hid (moves_step HM2.out hm3)
            have HWD := Lib.hid hwd
            have HNB := Lib.hid hnb
            have HASC := Lib.hid hasc
            clear hm3 hwd hnb hasc hall htt hkk hby hcb
            generalize hst : strOfNums tx = st at *
            have HST := Lib.hid hst
            clear hst
            go_wp2_with fail
            have J0 := Lib.hid (blk_far (p := ⟨w.heap.size + 1 + 1, 1, none⟩) (blk_far (p := ⟨w.heap.size + 1 + 1, 0, none⟩) G0.out (by simp; omega) (.int .i64 3)) (by simp; omega) (.string st))
            have J1 := Lib.hid (blk_far (p := ⟨w.heap.size + 1 + 1, 1, none⟩) (blk_far (p := ⟨w.heap.size + 1 + 1, 0, none⟩) G1.out (by simp) (.int .i64 3)) (by simp) (.string st))
            have J2 := Lib.hid (blk_set (blk_set G2.out 0 (.int .i64 3)) 1 (.string st))
            have J3 := Lib.hid (blk_far (p := ⟨w.heap.size + 1 + 1, 1, none⟩) (blk_far (p := ⟨w.heap.size + 1 + 1, 0, none⟩) G3.out (by simp) (.int .i64 3)) (by simp) (.string st))
            have HM3' := Lib.hid (moves_old (moves_old HM3.out (B := w.heap.size + 1 + 1) (by omega) hgl 0 (.int .i64 3)) (B := w.heap.size + 1 + 1) (by omega) hgl 1 (.string st))
            generalize (w3.setCell ⟨w.heap.size + 1 + 1, 0, none⟩ (.int .i64 3)).setCell ⟨w.heap.size + 1 + 1, 1, none⟩ (.string st) = w3' at J0 J1 J2 J3 HM3' ⊢
            refine (name_any st w3' htz HASC.out).mono ?_
            rintro e w4 ⟨rfl, hb4⟩
            rw [HNB.out]
            clear G0 G1 G2 G3 r0 rf0 r1 rf1 r2 rf2 r3 rf3 r4 rf4 t0 tf0 t1 tf1 t2 tf2 m0 mf0 m1 mf1 m2 mf2 m3 mf3 m4 mf4 n0 n1 n2 l0 l1 l2 l3
            have h0 := blk_below J0.out hb4 (blk_lt J0.out)
            have h1 := blk_below J1.out hb4 (blk_lt J1.out)
            have h2 := blk_below J2.out hb4 (blk_lt J2.out)
            have h3 := blk_below J3.out hb4 (blk_lt J3.out)
            have r0 := blk_cell h0 0
            have rf0 := blk_frozen h0 0
            have r1 := blk_cell h0 1
            have rf1 := blk_frozen h0 1
            have r2 := blk_cell h0 2
            have rf2 := blk_frozen h0 2
            have r3 := blk_cell h0 3
            have rf3 := blk_frozen h0 3
            have r4 := blk_cell h0 4
            have rf4 := blk_frozen h0 4
            have t0 := blk_cell h1 0
            have tf0 := blk_frozen h1 0
            have t1 := blk_cell h1 1
            have tf1 := blk_frozen h1 1
            have t2 := blk_cell h1 2
            have tf2 := blk_frozen h1 2
            have m0 := blk_cell h2 0
            have mf0 := blk_frozen h2 0
            have m1 := blk_cell h2 1
            have mf1 := blk_frozen h2 1
            have m2 := blk_cell h2 2
            have mf2 := blk_frozen h2 2
            have m3 := blk_cell h2 3
            have mf3 := blk_frozen h2 3
            have m4 := blk_cell h2 4
            have mf4 := blk_frozen h2 4
            have n0 := blk_cell h3 0
            have n1 := blk_cell h3 1
            have n2 := blk_cell h3 2
            have l0 := blk_lt h0
            have l1 := blk_lt h1
            have l2 := blk_lt h2
            have l3 := blk_lt h3
            have G0 := Lib.hid h0
            have G1 := Lib.hid h1
            have G2 := Lib.hid h2
            have G3 := Lib.hid h3
            clear h0 h1 h2 h3
            have HM4 := Lib.hid (moves_below HM3'.out hb4)
            clear hb4
            cases hok : Kx.nameOk tx
            · have hRb : R = .bad 2 i := by rw [HWD.out, hok]; rfl
              subst hRb
              go_wp2
              go_region
              all_goals
                go_wp2
                obtain ⟨q0, q1, q2, q3, q4, q5, q6, q7⟩ := eight_cells G0.out G1.out (.int .i64 3) (.string st) (.slice none 0 0) (.slice none 0 0) (.int .i64 (i : Int)) (.int .i64 2) (.int .i64 (i : Int)) (.int .i64 0)
                unfold eightSet at q0 q1 q2 q3 q4 q5 q6 q7
                refine bodyPost_ret (v := .tuple #[.agg #[.int .i64 3, .string st, .slice none 0 0, .slice none 0 0, .int .i64 (i : Int)], .agg #[.int .i64 2, .int .i64 (i : Int), .int .i64 0]]) (by simp [results, Try.results18, go_sem, q0, q1, q2, q3, q4, q5, q6, q7]) rfl ?_
                exact ⟨_, _, _, _, _, _, _, _, _, rfl, _, (moves_drew (eight_moves HM4.out hgl _ _ _ _ _ _ _ _))⟩
            · have hRg : R = .good ⟨3, tx, ⟨[], []⟩, i⟩ (i + kk) := by rw [HWD.out, hok]; rfl
              subst hRg
              go_wp2
              obtain ⟨q0, q1, q2, q3, q4, q5, q6, q7⟩ := eight_cells G0.out G1.out (.int .i64 3) (.string st) (.slice none 0 0) (.slice none 0 0) (.int .i64 (i : Int)) (.int .i64 0) (.int .i64 0) (.int .i64 0)
              unfold eightSet at q0 q1 q2 q3 q4 q5 q6 q7
              refine bodyPost_ret (v := .tuple #[.agg #[.int .i64 3, .string st, .slice none 0 0, .slice none 0 0, .int .i64 (i : Int)], .agg #[.int .i64 0, .int .i64 0, .int .i64 0]]) (by simp [results, Try.results18, go_sem, q0, q1, q2, q3, q4, q5, q6, q7]) rfl ?_
              refine ⟨(.slice none 0 0), (.slice none 0 0), (by rw [← HST.out]; rfl), ?_, (eight_moves HM4.out hgl _ _ _ _ _ _ _ _)⟩
              exact ⟨none, 0, 0, none, 0, 0, rfl, rfl, rfl, by omega, by omega, fun h => absurd h (Nat.lt_irrefl 0), fun h => absurd h (Nat.lt_irrefl 0)⟩
      · go_wp2_with fail
        refine (numbers_any g s i w2 HM2.out.2 hbg hs).mono ?_
        rintro e w3 hnum
        unfold NumbersTo at hnum
        generalize hq : Kx.numsAt ((nb s).length + 1) (nb s) i [] = q at hnum
        cases q with
        | bad j =>
          obtain ⟨rfl, kk, hm3⟩ := hnum
          have hRb : R = .bad 2 j := by rw [← HR.out, Kx.wordAt, if_neg HKS.out, if_pos hbg, hq]
          subst hRb
          have h0 := blk_grown H0.out hm3.1 (by intro e; cases e; omega)
          have h1 := blk_grown H1.out hm3.1 (by intro e; cases e; omega)
          have h2 := blk_grown H2.out hm3.1 (by intro e; cases e; omega)
          have h3 := blk_grown H3.out hm3.1 (by intro e; cases e; omega)
          have r0 := blk_cell h0 0
          have rf0 := blk_frozen h0 0
          have r1 := blk_cell h0 1
          have rf1 := blk_frozen h0 1
          have r2 := blk_cell h0 2
          have rf2 := blk_frozen h0 2
          have r3 := blk_cell h0 3
          have rf3 := blk_frozen h0 3
          have r4 := blk_cell h0 4
          have rf4 := blk_frozen h0 4
          have t0 := blk_cell h1 0
          have tf0 := blk_frozen h1 0
          have t1 := blk_cell h1 1
          have tf1 := blk_frozen h1 1
          have t2 := blk_cell h1 2
          have tf2 := blk_frozen h1 2
          have m0 := blk_cell h2 0
          have mf0 := blk_frozen h2 0
          have m1 := blk_cell h2 1
          have mf1 := blk_frozen h2 1
          have m2 := blk_cell h2 2
          have mf2 := blk_frozen h2 2
          have m3 := blk_cell h2 3
          have mf3 := blk_frozen h2 3
          have m4 := blk_cell h2 4
          have mf4 := blk_frozen h2 4
          have n0 := blk_cell h3 0
          have n1 := blk_cell h3 1
          have n2 := blk_cell h3 2
          have l0 := blk_lt h0
          have l1 := blk_lt h1
          have l2 := blk_lt h2
          have l3 := blk_lt h3
          have G0 := Lib.hid h0
          have G1 := Lib.hid h1
          have G2 := Lib.hid h2
          have G3 := Lib.hid h3
          clear h0 h1 h2 h3
          have HM3 := Lib.hid (moves_step HM2.out hm3)
          have hj0 : (0 : Int) ≤ (j : Int) := Int.natCast_nonneg j
          clear hm3 hq
          go_wp2
          obtain ⟨q0, q1, q2, q3, q4, q5, q6, q7⟩ := eight_cells G0.out G1.out (.int .i64 0) (.string ⟨#[]⟩) (.slice none 0 0) (.slice none 0 0) (.int .i64 (i : Int)) (.int .i64 2) (.int .i64 (j : Int)) (.int .i64 0)
          unfold eightSet at q0 q1 q2 q3 q4 q5 q6 q7
          refine bodyPost_ret (v := .tuple #[.agg #[.int .i64 0, .string ⟨#[]⟩, .slice none 0 0, .slice none 0 0, .int .i64 (i : Int)], .agg #[.int .i64 2, .int .i64 (j : Int), .int .i64 0]]) (by simp [results, Try.results18, go_sem, q0, q1, q2, q3, q4, q5, q6, q7, l0, l1]) rfl ?_
          exact ⟨_, _, _, _, _, _, _, _, _, rfl, kk, moves_alloc (eight_moves HM3.out hgl _ _ _ _ _ _ _ _) _⟩
        | good xs j =>
          obtain ⟨v, rfl, hlit, hm3⟩ := hnum
          obtain ⟨lA, ln, lc, lB, lm, ld, rfl⟩ := lit_form hlit
          have hRg : R = .good ⟨1, [], Kx.litNums xs, i⟩ j := by rw [← HR.out, Kx.wordAt, if_neg HKS.out, if_pos hbg, hq]
          subst hRg
          have h0 := blk_grown H0.out hm3.1 (by intro e; cases e; omega)
          have h1 := blk_grown H1.out hm3.1 (by intro e; cases e; omega)
          have h2 := blk_grown H2.out hm3.1 (by intro e; cases e; omega)
          have h3 := blk_grown H3.out hm3.1 (by intro e; cases e; omega)
          have r0 := blk_cell h0 0
          have rf0 := blk_frozen h0 0
          have r1 := blk_cell h0 1
          have rf1 := blk_frozen h0 1
          have r2 := blk_cell h0 2
          have rf2 := blk_frozen h0 2
          have r3 := blk_cell h0 3
          have rf3 := blk_frozen h0 3
          have r4 := blk_cell h0 4
          have rf4 := blk_frozen h0 4
          have t0 := blk_cell h1 0
          have tf0 := blk_frozen h1 0
          have t1 := blk_cell h1 1
          have tf1 := blk_frozen h1 1
          have t2 := blk_cell h1 2
          have tf2 := blk_frozen h1 2
          have m0 := blk_cell h2 0
          have mf0 := blk_frozen h2 0
          have m1 := blk_cell h2 1
          have mf1 := blk_frozen h2 1
          have m2 := blk_cell h2 2
          have mf2 := blk_frozen h2 2
          have m3 := blk_cell h2 3
          have mf3 := blk_frozen h2 3
          have m4 := blk_cell h2 4
          have mf4 := blk_frozen h2 4
          have n0 := blk_cell h3 0
          have n1 := blk_cell h3 1
          have n2 := blk_cell h3 2
          have l0 := blk_lt h0
          have l1 := blk_lt h1
          have l2 := blk_lt h2
          have l3 := blk_lt h3
          have G0 := Lib.hid h0
          have G1 := Lib.hid h1
          have G2 := Lib.hid h2
          have G3 := Lib.hid h3
          clear h0 h1 h2 h3
          have HM3 := Lib.hid (moves_step HM2.out hm3)
          have HLIT := Lib.hid hlit
          clear hm3 hq hlit
          go_wp2
          go_region
          all_goals
            go_wp2
            have w2f := blk_set (blk_set (blk_set G2.out 0 (.int .i64 1)) 2 (.slice lA ln lc)) 3 (.slice lB lm ld)
            have g0 := blk_far (p := ⟨w.heap.size + 1 + 1, 3, none⟩) (blk_far (p := ⟨w.heap.size + 1 + 1, 2, none⟩) (blk_far (p := ⟨w.heap.size + 1 + 1, 0, none⟩) G0.out (by simp; omega) (.int .i64 1)) (by simp; omega) (.slice lA ln lc)) (by simp; omega) (.slice lB lm ld)
            have g1 := blk_far (p := ⟨w.heap.size + 1 + 1, 3, none⟩) (blk_far (p := ⟨w.heap.size + 1 + 1, 2, none⟩) (blk_far (p := ⟨w.heap.size + 1 + 1, 0, none⟩) G1.out (by simp) (.int .i64 1)) (by simp) (.slice lA ln lc)) (by simp) (.slice lB lm ld)
            obtain ⟨q0, q1, q2, q3, q4, q5, q6, q7⟩ := eight_cells g0 g1 (.int .i64 1) (.string ⟨#[]⟩) (.slice lA ln lc) (.slice lB lm ld) (.int .i64 (i : Int)) (.int .i64 0) (.int .i64 0) (.int .i64 0)
            unfold eightSet at q0 q1 q2 q3 q4 q5 q6 q7
            refine bodyPost_ret (v := .tuple #[.agg #[.int .i64 1, .string ⟨#[]⟩, .slice lA ln lc, .slice lB lm ld, .int .i64 (i : Int)], .agg #[.int .i64 0, .int .i64 0, .int .i64 0]]) (by simp [results, Try.results18, go_sem, q0, q1, q2, q3, q4, q5, q6, q7, l0, l1]) rfl ?_
            refine ⟨.slice lA ln lc, .slice lB lm ld, rfl, ?_, ?_⟩
            · have hB2 := blk_lt H2.out
              exact lit_drew (lit_alloc (lit_store8 (lit_far (p := ⟨w.heap.size + 1 + 1, 3, none⟩) (lit_far (p := ⟨w.heap.size + 1 + 1, 2, none⟩) (lit_far (p := ⟨w.heap.size + 1 + 1, 0, none⟩) HLIT.out hB2) hB2) hB2) (by omega)) _)
            · exact moves_drew (moves_alloc (eight_moves (moves_old (moves_old (moves_old HM3.out (by omega) hgl 0 _) (by omega) hgl 2 _) (by omega) hgl 3 _) hgl _ _ _ _ _ _ _ _) _)
end Go.Proofs.Ytkghglncmekdgaa
