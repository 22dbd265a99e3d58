/- Contract of the reference's numbers that stand together. Conditions: the text is no longer than a million bytes; a number begins there. -/
import Derived.Test.YtollglblkbjgjaaHd
namespace Go.Proofs.Ytollglblkbjgjaa
open Go.RowKit

/-- a word as it is handed on -/
def TokV (R : Nat) (w : World) (v : Value) (k : Int) (x : ByteArray) (a : Nat) : Prop :=
 ∃ (A : Option Addr) (n c : Nat) (B : Option Addr) (m d : Nat) (t : ArrD), v = .agg #[.int .i64 k, .string x, .slice A n c, .slice B m d, .int .i64 (a : Int)] ∧ LitAt (R ≤ ·) w (.agg #[.slice A n c, .slice B m d]) t
theorem TokV.below {R : Nat} {w w' : World} {v : Value} {k : Int} {x : ByteArray} {a : Nat} (h : TokV R w v k x a) (hb : Below w.heap.size w w') : TokV R w' v k x a := by
 obtain ⟨A, n, c, B, m, d, t, h1, h2⟩ := h
 exact ⟨A, n, c, B, m, d, t, h1, h2.below hb⟩
theorem lit_none (S : Nat → Prop) (w : World) : LitAt S w (.agg #[.slice none 0 0, .slice none 0 0]) ⟨[], []⟩ :=
 ⟨none, 0, 0, none, 0, 0, rfl, rfl, rfl, by omega, by omega, fun h => by simp [nums] at h, fun h => by simp [cels] at h⟩
theorem LitAt.from {S : Nat → Prop} {w : World} {v : Value} {t : ArrD} {R : Nat} (h : LitAt S w v t) (hS : ∀ b, S b → R ≤ b) : LitAt (R ≤ ·) w v t := h.mono (Nat.le_refl _) (fun b hb _ => ⟨hS b hb, rfl⟩)
theorem LitAt.form {S : Nat → Prop} {w : World} {v : Value} {t : ArrD} (h : LitAt S w v t) : ∃ A n c B m d, v = .agg #[.slice A n c, .slice B m d] := by
 obtain ⟨A, n, c, B, m, d, h1, _⟩ := h
 exact ⟨A, n, c, B, m, d, h1⟩
def fiveSet (w : World) (B : Nat) (a0 a1 a2 a3 a4 : Value) : World := ((((w.setCell ⟨B, 0, none⟩ a0).setCell ⟨B, 1, none⟩ a1).setCell ⟨B, 2, none⟩ a2).setCell ⟨B, 3, none⟩ a3).setCell ⟨B, 4, none⟩ a4
theorem five_blk {w : World} {B : Nat} {o0 o1 o2 o3 o4 : Value} (h0 : w.heap[B]? = some (.cells #[o0, o1, o2, o3, o4] 43 (0, 0))) (a0 a1 a2 a3 a4 : Value) : (fiveSet w B a0 a1 a2 a3 a4).heap[B]? = some (.cells #[a0, a1, a2, a3, a4] 43 (0, 0)) := by
 have := blk_set (blk_set (blk_set (blk_set (blk_set h0 0 a0) 1 a1) 2 a2) 3 a3) 4 a4
 simpa [fiveSet] using this
theorem below_five {B g : Nat} {w w' : World} (h : Below B w w') (hg : B ≤ g) (a0 a1 a2 a3 a4 : Value) : Below B w (fiveSet w' g a0 a1 a2 a3 a4) :=
 below_set (below_set (below_set (below_set (below_set h hg 0 a0) hg 1 a1) hg 2 a2) hg 3 a3) hg 4 a4
theorem LitAt.set {S : Nat → Prop} {w : World} {v : Value} {t : ArrD} {g i : Nat} {u : Value} (h : LitAt S w v t) (hg : ∀ b, S b → b ≠ g) : LitAt S (w.setCell ⟨g, i, none⟩ u) v t :=
 h.mono (by simp [World.setCell]) (fun b hS _ => ⟨hS, Below.heap_setCell w _ u b (by simpa using hg b hS)⟩)
/-- what numbers that stand together are read as -/
def StrandTo (R1 : Option Nat) (s : ByteArray) (i : Nat) (w : World) (e : Ending) (w' : World) : Prop := Below w.heap.size w w' ∧
 ∃ (v : Value) (to : Nat) (bad : Int), e = .returned (.tuple #[v, .int .i64 (to : Int), .int .i64 bad]) ∧ TokV w.heap.size w' v 1 ⟨#[]⟩ i ∧ (0 ≤ bad ∨ bad = -1 ∧ i < to ∧ to ≤ s.size) ∧ (∀ j, R1 = some j → bad = -1 ∧ to = j)
def strand1 (s : ByteArray) (i : Nat) (p : ByteArray) : Option Nat := if digits s (numAt s i p) ≤ numAt s i p + 1 ∧ blanks s (digits s (numAt s i p)) = digits s (numAt s i p) then some (digits s (numAt s i p)) else none
theorem num_grows {s : ByteArray} {i : Nat} {p : ByteArray} (h : digAt s (numAt s i p) = true) : i < digits s (numAt s i p) ∧ digits s (numAt s i p) ≤ s.size := by
 have h1 := digits_pos h
 have h2 := digits_le (Nat.le_of_lt (digAt_lt h))
 have h3 : i ≤ numAt s i p := by unfold numAt; split <;> omega
 omega
theorem info2 : (Try.prog.info? 2).map (fun i => (i.zero, i.size, i.bytes)) = some (some (.int .i64 0), 1, 8) := by kernel_rfl
set_option maxRecDepth 100000 in
set_option maxHeartbeats 8000000 in
theorem strand_any (s p : ByteArray) (hp : p.size ≤ 1000) (i : Nat) (w : World) (hs : s.size ≤ 1000000) (hi : i ≤ s.size) (hbg : digAt s (numAt s i p) = true) :
  Calls Try.prog 40 #[.string s, .int .i64 (i : Int), .string p] w (StrandTo (strand1 s i p) s i w) := by
 obtain ⟨i2, hi2, hz2, hs2, hb2⟩ := info_parts info2
 have hps : (p).size ≤ 1000 := hp
 obtain ⟨R1, hR1⟩ : ∃ R1, strand1 s i p = R1 := ⟨_, rfl⟩
 rw [hR1]
 have HR1 := Lib.hid hR1
 have HBG := Lib.hid hbg
 have HS0 := Lib.hid hs
 clear hR1 hbg
 go_enter Try.func40, Try.ntmps40
 go_wp2
 go_loopw [1, 10] (fun q l wr => ∃ (k : Nat) (acc : List Int), q = .int .i64 k ∧ k ≤ s.size ∧ acc.length ≤ k ∧ digAt s (numAt s k p) = true ∧ (k = i ∨ R1 = none) ∧ Below w.heap.size w wr ∧ wr.heap[w.heap.size]? = some (.cells #[.int .i64 0, .string ⟨#[]⟩, .slice none 0 0, .slice none 0 0, .int .i64 0] 43 (0, 0)) ∧ wr.heap[w.heap.size + 1]? = some (.cells #[.int .i64 1, .string ⟨#[]⟩, .slice none 0 0, .slice none 0 0, .int .i64 (i : Int)] 43 (0, 0)) ∧ wr.ownsRow (w.heap.size + 2) 2 1 l acc.length (nums .i64 acc) ∧ i ≤ k) (fun q _ _ => s.size - (intOf q).toNat)
 case atStart =>
  refine ⟨i, [], rfl, hi, Nat.zero_le _, HBG.out, .inl rfl, ((Below.refl _ _).alloc (Nat.le_refl _) _).alloc (by simp) _, blk_alloc (blk_new w _) _, ?_, World.ownsRow_nil _ _ _ _, Nat.le_refl _⟩
  have := blk_new (w.alloc (.cells #[.int .i64 0, .string ⟨#[]⟩, .slice none 0 0, .slice none 0 0, .int .i64 0] 43)) (.cells #[.int .i64 1, .string ⟨#[]⟩, .slice none 0 0, .slice none 0 0, .int .i64 (i : Int)] 43)
  simpa using this
 case round =>
  obtain ⟨k, acc, rfl, hk, hacc, hdg, hk1, hb, hres, htk, hown, hik⟩ := hrel
  have hng := num_grows hdg
  have HK1 := Lib.hid hk1
  have HB := Lib.hid hb
  have HRES := Lib.hid hres
  have HTK := Lib.hid htk
  have HOWN := Lib.hid hown
  have HDG := Lib.hid hdg
  have hres0 := blk_lt hres
  have htk0 := blk_lt htk
  clear hdg hk1 hb hres htk hown
  go_wp2_with fail
  refine (number_any s p k wr hs hk hps).mono ?_
  rintro e w1 ⟨x, ok, rfl, hww, hok⟩
  obtain rfl : wr = w1 := hww.symm
  have HOK := Lib.hid hok
  clear hok
  obtain ⟨j, hj⟩ : ∃ j, digits s (numAt s k p) = j := ⟨_, rfl⟩
  rw [hj] at hng HOK ⊢
  have HJ := Lib.hid hj
  clear hj
  cases ok
  ·have r0 := blk_cell HRES.out 0
   have r1 := blk_cell HRES.out 1
   have r2 := blk_cell HRES.out 2
   have r3 := blk_cell HRES.out 3
   have r4 := blk_cell HRES.out 4
   have f0 := blk_frozen HRES.out 0
   have f1 := blk_frozen HRES.out 1
   have f2 := blk_frozen HRES.out 2
   have f3 := blk_frozen HRES.out 3
   have f4 := blk_frozen HRES.out 4
   have t0 := blk_cell HTK.out 0
   have t1 := blk_cell HTK.out 1
   have t2 := blk_cell HTK.out 2
   have t3 := blk_cell HTK.out 3
   have t4 := blk_cell HTK.out 4
   go_wp2
   have hr := five_blk HRES.out (.int .i64 1) (.string ⟨#[]⟩) (.slice none 0 0) (.slice none 0 0) (.int .i64 (i : Int))
   unfold fiveSet at hr
   have q0 := blk_cell hr 0
   have q1 := blk_cell hr 1
   have q2 := blk_cell hr 2
   have q3 := blk_cell hr 3
   have q4 := blk_cell hr 4
   refine bodyPost_ret (v := .tuple #[.agg #[.int .i64 1, .string ⟨#[]⟩, .slice none 0 0, .slice none 0 0, .int .i64 (i : Int)], .int .i64 (k : Int), .int .i64 (k : Int)]) (by simp [results, Try.results40, go_sem, q0, q1, q2, q3, q4]) rfl ?_
   refine ⟨below_five HB.out (Nat.le_refl _) _ _ _ _ _, _, k, (k : Int), rfl, ⟨none, 0, 0, none, 0, 0, _, rfl, lit_none _ _⟩, .inl (by omega), ?_⟩
   intro jj hjj
   rcases HK1.out with h | h
   ·subst h
    have h1 := HR1.out
    rw [hjj, strand1, HJ.out] at h1
    split at h1
    ·rename_i hc
     exact absurd (HOK.out hc.1) (by decide)
    ·cases h1
   ·rw [h] at hjj; cases hjj
  ·go_wp2_with
    (at_builtin; refine wpList_append_lies _ rfl (.tmp 30) (.tmp 32) 96 rfl (w.heap.size + 2) 2 i2 _ 1 8 Try.underlying96 hi2 hz2 hs2 hb2 rfl (by omega) u10 acc.length (nums .i64 acc) rfl (HOWN.out.alloc _)
        ⟨wr.heap.size, 0, none⟩ 1 1 (nums .i64 [x]) rfl rfl (World.news_of_block (cs := (nums .i64 [x]).toArray) (t := 2) (fr := (0, 0)) (heap_alloc_new wr _)) nums_one (by omega) (by unfold maxLen; omega) (by omega) (by simp; omega) (wr.heap.size + 1) (by simp) ?_; intro gg cap w2 hown2 hgrow hat2 hlt2; have HOWN2 := Lib.hid (show w2.ownsRow (w.heap.size + 2) 2 1 (.slice (some ⟨gg, 0, none⟩) (acc.length + 1) cap) (acc.length + 1) (nums .i64 (acc ++ [x])) by rw [nums_append]; exact hown2); have HB2 := Lib.hid (((HB.out.alloc HB.out.size _).grown hgrow (by have := HB.out.size; simp; omega) (fun b hb => by have := (HOWN.out.lt b hb).1; omega)) : Below w.heap.size w w2); have HRES2 := Lib.hid (blk_grown (blk_alloc HRES.out (Obj.cells (nums .i64 [x]).toArray 2)) hgrow (own_ne HOWN.out (by omega))); have HTK2 := Lib.hid (blk_grown (blk_alloc HTK.out (Obj.cells (nums .i64 [x]).toArray 2)) hgrow (own_ne HOWN.out (by omega))); have hgg := (HOWN2.out.lt gg rfl).1)
   have HNX := Lib.hid (blanks_any s j w2 hs hng.2)
   have hnx := blanks_le hng.2
   obtain ⟨nx, hnxe⟩ : ∃ x, blanks s j = x := ⟨_, rfl⟩
   rw [hnxe] at HNX hnx
   have HNE := Lib.hid hnxe
   clear hnxe
   have HRW2 := Lib.hid (show RowAt .i64 w2 (some ⟨gg, 0, none⟩) (acc ++ [x]) by
    obtain ⟨A, c, hv, _, _, _, _, hrow⟩ := own_row HOWN2.out
    cases hv
    exact hrow)
   have hbs2 := blk_lt HRES2.out
   have htb2 := blk_lt HTK2.out
   have HLEN := Lib.hid (show (acc ++ [x]).length = acc.length + 1 by simp)
   have hB2 := HB2.out.size
   clear hown2 hgrow hat2 hlt2 hres0 htk0
   by_cases hnj : nx = j
   ·subst hnj
    have b1 : ((nx : Int) == (nx : Int)) = true := beq_iff_eq.2 rfl
    go_wp2_with fail
    refine HNX.out.mono ?_
    rintro e w3 ⟨rfl, hww⟩
    obtain rfl : w2 = w3 := hww.symm
    go_wp2_with fail
    refine (rnums_any _ _ cap (acc ++ [x]) w2 HRW2.out HLEN.out (by omega)).mono ?_
    rintro e w4 ⟨v4, rfl, hlit4, hb4⟩
    obtain ⟨A4, n4, c4, B4, m4, d4, rfl⟩ := hlit4.form
    have HLIT4 := Lib.hid hlit4
    have HB4 := Lib.hid (HB2.out.trans (hb4.mono HB2.out.size))
    have HRES4 := Lib.hid (blk_below HRES2.out hb4 hbs2)
    have HTK4 := Lib.hid (blk_below HTK2.out hb4 htb2)
    have HRW4 := Lib.hid (HRW2.out.below hb4)
    have hs24 := hb4.size
    clear hlit4 hb4
    have hbs4 := blk_lt HRES4.out
    have htb4 := blk_lt HTK4.out
    have t0 := blk_cell HTK4.out 0
    have tf0 := blk_frozen HTK4.out 0
    have t1 := blk_cell HTK4.out 1
    have tf1 := blk_frozen HTK4.out 1
    have t2 := blk_cell HTK4.out 2
    have tf2 := blk_frozen HTK4.out 2
    have t3 := blk_cell HTK4.out 3
    have tf3 := blk_frozen HTK4.out 3
    have t4 := blk_cell HTK4.out 4
    have tf4 := blk_frozen HTK4.out 4
    have r0 := blk_cell HRES4.out 0
    have rf0 := blk_frozen HRES4.out 0
    have r1 := blk_cell HRES4.out 1
    have rf1 := blk_frozen HRES4.out 1
    have r2 := blk_cell HRES4.out 2
    have rf2 := blk_frozen HRES4.out 2
    have r3 := blk_cell HRES4.out 3
    have rf3 := blk_frozen HRES4.out 3
    have r4 := blk_cell HRES4.out 4
    have rf4 := blk_frozen HRES4.out 4
    by_cases hone : acc.length = 0
    ·obtain rfl : acc = [] := List.length_eq_zero_iff.1 hone
     have cx : w4.cell? ⟨gg, 0, none⟩ = some (.int .i64 x) := by
      obtain ⟨b, off, e, hc⟩ := HRW4.out.2 (by simp)
      cases e
      simpa using hc 0 (by simp)
     have hne1 : ¬ gg = w.heap.size + 1 := by omega
     have hne1' : ¬ w.heap.size + 1 = gg := by omega
     clear hone
     go_wp2_with fail
     have HB5 := Lib.hid (below_set (below_set HB4.out (g := w.heap.size + 1) (by omega) 2 (.slice A4 n4 c4)) (g := w.heap.size + 1) (by omega) 3 (.slice B4 m4 d4))
     have HRES5 := Lib.hid (blk_far (p := ⟨w.heap.size + 1, 3, none⟩) (blk_far (p := ⟨w.heap.size + 1, 2, none⟩) HRES4.out (by simp) (.slice A4 n4 c4)) (by simp) (.slice B4 m4 d4))
     have HTK5 := Lib.hid (show ((w4.setCell ⟨w.heap.size + 1, 2, none⟩ (.slice A4 n4 c4)).setCell ⟨w.heap.size + 1, 3, none⟩ (.slice B4 m4 d4)).heap[w.heap.size + 1]? = some (.cells #[.int .i64 1, .string ⟨#[]⟩, .slice A4 n4 c4, .slice B4 m4 d4, .int .i64 (i : Int)] 43 (0, 0)) by simpa using blk_set (blk_set HTK4.out 2 (.slice A4 n4 c4)) 3 (.slice B4 m4 d4))
     obtain ⟨W5, hW5⟩ : ∃ W, (w4.setCell ⟨w.heap.size + 1, 2, none⟩ (.slice A4 n4 c4)).setCell ⟨w.heap.size + 1, 3, none⟩ (.slice B4 m4 d4) = W := ⟨_, rfl⟩
     rw [hW5] at HB5 HRES5 HTK5 ⊢
     clear hW5 t0 tf0 r0 rf0 t1 tf1 r1 rf1 t2 tf2 r2 rf2 t3 tf3 r3 rf3 t4 tf4 r4 rf4 HRW4 HRW2 HLIT4 cx
     refine (atom_any x W5).mono ?_
     rintro e w6 ⟨v6, rfl, hlit6, hb6⟩
     obtain ⟨A6, n6, c6, B6, m6, d6, rfl⟩ := hlit6.form
     have hbs5 := blk_lt HRES5.out
     have htb5 := blk_lt HTK5.out
     have HRES6 := Lib.hid (blk_below HRES5.out hb6 hbs5)
     have HTK6 := Lib.hid (blk_below HTK5.out hb6 htb5)
     have HLIT6 := Lib.hid (hlit6.set (g := w.heap.size + 1) (i := 2) (u := .slice A6 n6 c6) (fun b (hb : W5.heap.size ≤ b) => by omega))
     have HLIT7 := Lib.hid ((HLIT6.out.set (g := w.heap.size + 1) (i := 3) (u := .slice B6 m6 d6) (fun b (hb : W5.heap.size ≤ b) => by omega)).mono (T := fun b => w.heap.size + 1 < b) (Nat.le_refl _) (fun b (hb : W5.heap.size ≤ b) _ => ⟨by omega, rfl⟩))
     have HB6 := Lib.hid (HB5.out.trans (hb6.mono HB5.out.size))
     clear hlit6 hb6
     have HB7 := Lib.hid (below_set (below_set HB6.out (g := w.heap.size + 1) (by omega) 2 (.slice A6 n6 c6)) (g := w.heap.size + 1) (by omega) 3 (.slice B6 m6 d6))
     have HRES7 := Lib.hid (blk_far (p := ⟨w.heap.size + 1, 3, none⟩) (blk_far (p := ⟨w.heap.size + 1, 2, none⟩) HRES6.out (by simp) (.slice A6 n6 c6)) (by simp) (.slice B6 m6 d6))
     have t0 := blk_cell HTK6.out 0
     have tf0 := blk_frozen HTK6.out 0
     have t1 := blk_cell HTK6.out 1
     have tf1 := blk_frozen HTK6.out 1
     have t2 := blk_cell HTK6.out 2
     have tf2 := blk_frozen HTK6.out 2
     have t3 := blk_cell HTK6.out 3
     have tf3 := blk_frozen HTK6.out 3
     have t4 := blk_cell HTK6.out 4
     have tf4 := blk_frozen HTK6.out 4
     have r0 := blk_cell HRES6.out 0
     have rf0 := blk_frozen HRES6.out 0
     have r1 := blk_cell HRES6.out 1
     have rf1 := blk_frozen HRES6.out 1
     have r2 := blk_cell HRES6.out 2
     have rf2 := blk_frozen HRES6.out 2
     have r3 := blk_cell HRES6.out 3
     have rf3 := blk_frozen HRES6.out 3
     have r4 := blk_cell HRES6.out 4
     have rf4 := blk_frozen HRES6.out 4
     have hbs6 := blk_lt HRES6.out
     have htb6 := blk_lt HTK6.out
     go_wp2_with fail
     have hr := five_blk HRES7.out (.int .i64 1) (.string ⟨#[]⟩) (.slice A6 n6 c6) (.slice B6 m6 d6) (.int .i64 (i : Int))
     unfold fiveSet at hr
     have q0 := blk_cell hr 0
     have q1 := blk_cell hr 1
     have q2 := blk_cell hr 2
     have q3 := blk_cell hr 3
     have q4 := blk_cell hr 4
     refine bodyPost_ret (v := .tuple #[.agg #[.int .i64 1, .string ⟨#[]⟩, .slice A6 n6 c6, .slice B6 m6 d6, .int .i64 (i : Int)], .int .i64 (nx : Int), .int .i64 (-1)]) (by simp [results, Try.results40, go_sem, q0, q1, q2, q3, q4]) rfl ?_
     refine ⟨below_five HB7.out (Nat.le_refl _) (.int .i64 1) (.string ⟨#[]⟩) (.slice A6 n6 c6) (.slice B6 m6 d6) (.int .i64 (i : Int)), _, nx, -1, rfl, ⟨_, _, _, _, _, _, _, rfl, (((((HLIT7.out.set (fun b hb => by omega)).set (fun b hb => by omega)).set (fun b hb => by omega)).set (fun b hb => by omega)).set (fun b hb => by omega)).from (fun b hb => by omega)⟩, .inr ⟨rfl, by omega, by omega⟩, ?_⟩
     intro jj hjj
     rcases HK1.out with h | h
     ·subst h
      have h1 := HR1.out
      rw [hjj, strand1, HJ.out] at h1
      split at h1
      ·cases h1; exact ⟨rfl, rfl⟩
      ·cases h1
     ·rw [h] at hjj; cases hjj
    ·have hne : ((acc.length : Int) + 1 == 1) = false := beq_eq_false_iff_ne.2 (by omega)
     have HLIT5 := Lib.hid ((HLIT4.out.set (g := w.heap.size + 1) (i := 2) (u := .slice A4 n4 c4) (fun b (hb : w2.heap.size ≤ b) => by omega)).mono (T := fun b => w.heap.size + 1 < b) (Nat.le_refl _) (fun b (hb : w2.heap.size ≤ b) _ => ⟨by omega, rfl⟩))
     have HLIT6 := Lib.hid (HLIT5.out.set (g := w.heap.size + 1) (i := 3) (u := .slice B4 m4 d4) (fun b hb => by omega))
     have HB5 := Lib.hid (below_set (below_set HB4.out (g := w.heap.size + 1) (by omega) 2 (.slice A4 n4 c4)) (g := w.heap.size + 1) (by omega) 3 (.slice B4 m4 d4))
     have HRES5 := Lib.hid (blk_far (p := ⟨w.heap.size + 1, 3, none⟩) (blk_far (p := ⟨w.heap.size + 1, 2, none⟩) HRES4.out (by simp) (.slice A4 n4 c4)) (by simp) (.slice B4 m4 d4))
     clear hone
     go_wp2_with fail
     have hr := five_blk HRES5.out (.int .i64 1) (.string ⟨#[]⟩) (.slice A4 n4 c4) (.slice B4 m4 d4) (.int .i64 (i : Int))
     unfold fiveSet at hr
     have q0 := blk_cell hr 0
     have q1 := blk_cell hr 1
     have q2 := blk_cell hr 2
     have q3 := blk_cell hr 3
     have q4 := blk_cell hr 4
     refine bodyPost_ret (v := .tuple #[.agg #[.int .i64 1, .string ⟨#[]⟩, .slice A4 n4 c4, .slice B4 m4 d4, .int .i64 (i : Int)], .int .i64 (nx : Int), .int .i64 (-1)]) (by simp [results, Try.results40, go_sem, q0, q1, q2, q3, q4]) rfl ?_
     refine ⟨below_five HB5.out (Nat.le_refl _) (.int .i64 1) (.string ⟨#[]⟩) (.slice A4 n4 c4) (.slice B4 m4 d4) (.int .i64 (i : Int)), _, nx, -1, rfl, ⟨_, _, _, _, _, _, _, rfl, (((((HLIT6.out.set (fun b hb => by omega)).set (fun b hb => by omega)).set (fun b hb => by omega)).set (fun b hb => by omega)).set (fun b hb => by omega)).from (fun b hb => by omega)⟩, .inr ⟨rfl, by omega, by omega⟩, ?_⟩
     intro jj hjj
     rcases HK1.out with h | h
     ·subst h
      have h1 := HR1.out
      rw [hjj, strand1, HJ.out] at h1
      split at h1
      ·cases h1; exact ⟨rfl, rfl⟩
      ·cases h1
     ·rw [h] at hjj; cases hjj
   ·have b1 : ((nx : Int) == (j : Int)) = false := beq_eq_false_iff_ne.2 (by omega)
    have HR1N := Lib.hid (show R1 = none by
     rcases HK1.out with h | h
     ·subst h
      rw [← HR1.out, strand1, HJ.out, HNE.out, if_neg (fun h => hnj h.2)]
     ·exact h)
    have HBGN := Lib.hid (begins_any s p nx w2 hs (by omega) hp)
    cases hbn : beginsM s nx p with
    | true =>
     rw [hbn] at HBGN
     have HBN := Lib.hid (hbn)
     clear hbn
     go_wp2_with fail
     refine HNX.out.mono ?_
     rintro e w3 ⟨rfl, hww⟩
     obtain rfl : w2 = w3 := hww.symm
     go_wp2_with fail
     refine HBGN.out.mono ?_
     rintro e w3 ⟨rfl, hww⟩
     obtain rfl : w2 = w3 := hww.symm
     go_wp2
     go_roundw
     case rel => exact ⟨nx, acc ++ [x], rfl, by omega, by rw [HLEN.out]; omega, HBN.out, .inr HR1N.out, HB2.out, HRES2.out, HTK2.out, by rw [HLEN.out]; exact HOWN2.out, by omega⟩
     case measure => simp [intOf]; omega
    | false =>
     rw [hbn] at HBGN
     clear hbn
     go_wp2_with fail
     refine HNX.out.mono ?_
     rintro e w3 ⟨rfl, hww⟩
     obtain rfl : w2 = w3 := hww.symm
     go_wp2_with fail
     refine HBGN.out.mono ?_
     rintro e w3 ⟨rfl, hww⟩
     obtain rfl : w2 = w3 := hww.symm
     go_wp2_with fail
     refine (rnums_any _ _ cap (acc ++ [x]) w2 HRW2.out HLEN.out (by omega)).mono ?_
     rintro e w4 ⟨v4, rfl, hlit4, hb4⟩
     obtain ⟨A4, n4, c4, B4, m4, d4, rfl⟩ := hlit4.form
     have HLIT4 := Lib.hid hlit4
     have HB4 := Lib.hid (HB2.out.trans (hb4.mono HB2.out.size))
     have HRES4 := Lib.hid (blk_below HRES2.out hb4 hbs2)
     have HTK4 := Lib.hid (blk_below HTK2.out hb4 htb2)
     have HRW4 := Lib.hid (HRW2.out.below hb4)
     have hs24 := hb4.size
     clear hlit4 hb4
     have hbs4 := blk_lt HRES4.out
     have htb4 := blk_lt HTK4.out
     have t0 := blk_cell HTK4.out 0
     have tf0 := blk_frozen HTK4.out 0
     have t1 := blk_cell HTK4.out 1
     have tf1 := blk_frozen HTK4.out 1
     have t2 := blk_cell HTK4.out 2
     have tf2 := blk_frozen HTK4.out 2
     have t3 := blk_cell HTK4.out 3
     have tf3 := blk_frozen HTK4.out 3
     have t4 := blk_cell HTK4.out 4
     have tf4 := blk_frozen HTK4.out 4
     have r0 := blk_cell HRES4.out 0
     have rf0 := blk_frozen HRES4.out 0
     have r1 := blk_cell HRES4.out 1
     have rf1 := blk_frozen HRES4.out 1
     have r2 := blk_cell HRES4.out 2
     have rf2 := blk_frozen HRES4.out 2
     have r3 := blk_cell HRES4.out 3
     have rf3 := blk_frozen HRES4.out 3
     have r4 := blk_cell HRES4.out 4
     have rf4 := blk_frozen HRES4.out 4
     by_cases hone : acc.length = 0
     ·obtain rfl : acc = [] := List.length_eq_zero_iff.1 hone
      have cx : w4.cell? ⟨gg, 0, none⟩ = some (.int .i64 x) := by
       obtain ⟨b, off, e, hc⟩ := HRW4.out.2 (by simp)
       cases e
       simpa using hc 0 (by simp)
      have hne1 : ¬ gg = w.heap.size + 1 := by omega
      have hne1' : ¬ w.heap.size + 1 = gg := by omega
      clear hone
      go_wp2_with fail
      have HB5 := Lib.hid (below_set (below_set HB4.out (g := w.heap.size + 1) (by omega) 2 (.slice A4 n4 c4)) (g := w.heap.size + 1) (by omega) 3 (.slice B4 m4 d4))
      have HRES5 := Lib.hid (blk_far (p := ⟨w.heap.size + 1, 3, none⟩) (blk_far (p := ⟨w.heap.size + 1, 2, none⟩) HRES4.out (by simp) (.slice A4 n4 c4)) (by simp) (.slice B4 m4 d4))
      have HTK5 := Lib.hid (show ((w4.setCell ⟨w.heap.size + 1, 2, none⟩ (.slice A4 n4 c4)).setCell ⟨w.heap.size + 1, 3, none⟩ (.slice B4 m4 d4)).heap[w.heap.size + 1]? = some (.cells #[.int .i64 1, .string ⟨#[]⟩, .slice A4 n4 c4, .slice B4 m4 d4, .int .i64 (i : Int)] 43 (0, 0)) by simpa using blk_set (blk_set HTK4.out 2 (.slice A4 n4 c4)) 3 (.slice B4 m4 d4))
      obtain ⟨W5, hW5⟩ : ∃ W, (w4.setCell ⟨w.heap.size + 1, 2, none⟩ (.slice A4 n4 c4)).setCell ⟨w.heap.size + 1, 3, none⟩ (.slice B4 m4 d4) = W := ⟨_, rfl⟩
      rw [hW5] at HB5 HRES5 HTK5 ⊢
      clear hW5 t0 tf0 r0 rf0 t1 tf1 r1 rf1 t2 tf2 r2 rf2 t3 tf3 r3 rf3 t4 tf4 r4 rf4 HRW4 HRW2 HLIT4 cx
      refine (atom_any x W5).mono ?_
      rintro e w6 ⟨v6, rfl, hlit6, hb6⟩
      obtain ⟨A6, n6, c6, B6, m6, d6, rfl⟩ := hlit6.form
      have hbs5 := blk_lt HRES5.out
      have htb5 := blk_lt HTK5.out
      have HRES6 := Lib.hid (blk_below HRES5.out hb6 hbs5)
      have HTK6 := Lib.hid (blk_below HTK5.out hb6 htb5)
      have HLIT6 := Lib.hid (hlit6.set (g := w.heap.size + 1) (i := 2) (u := .slice A6 n6 c6) (fun b (hb : W5.heap.size ≤ b) => by omega))
      have HLIT7 := Lib.hid ((HLIT6.out.set (g := w.heap.size + 1) (i := 3) (u := .slice B6 m6 d6) (fun b (hb : W5.heap.size ≤ b) => by omega)).mono (T := fun b => w.heap.size + 1 < b) (Nat.le_refl _) (fun b (hb : W5.heap.size ≤ b) _ => ⟨by omega, rfl⟩))
      have HB6 := Lib.hid (HB5.out.trans (hb6.mono HB5.out.size))
      clear hlit6 hb6
      have HB7 := Lib.hid (below_set (below_set HB6.out (g := w.heap.size + 1) (by omega) 2 (.slice A6 n6 c6)) (g := w.heap.size + 1) (by omega) 3 (.slice B6 m6 d6))
      have HRES7 := Lib.hid (blk_far (p := ⟨w.heap.size + 1, 3, none⟩) (blk_far (p := ⟨w.heap.size + 1, 2, none⟩) HRES6.out (by simp) (.slice A6 n6 c6)) (by simp) (.slice B6 m6 d6))
      have t0 := blk_cell HTK6.out 0
      have tf0 := blk_frozen HTK6.out 0
      have t1 := blk_cell HTK6.out 1
      have tf1 := blk_frozen HTK6.out 1
      have t2 := blk_cell HTK6.out 2
      have tf2 := blk_frozen HTK6.out 2
      have t3 := blk_cell HTK6.out 3
      have tf3 := blk_frozen HTK6.out 3
      have t4 := blk_cell HTK6.out 4
      have tf4 := blk_frozen HTK6.out 4
      have r0 := blk_cell HRES6.out 0
      have rf0 := blk_frozen HRES6.out 0
      have r1 := blk_cell HRES6.out 1
      have rf1 := blk_frozen HRES6.out 1
      have r2 := blk_cell HRES6.out 2
      have rf2 := blk_frozen HRES6.out 2
      have r3 := blk_cell HRES6.out 3
      have rf3 := blk_frozen HRES6.out 3
      have r4 := blk_cell HRES6.out 4
      have rf4 := blk_frozen HRES6.out 4
      have hbs6 := blk_lt HRES6.out
      have htb6 := blk_lt HTK6.out
      go_wp2_with fail
      have hr := five_blk HRES7.out (.int .i64 1) (.string ⟨#[]⟩) (.slice A6 n6 c6) (.slice B6 m6 d6) (.int .i64 (i : Int))
      unfold fiveSet at hr
      have q0 := blk_cell hr 0
      have q1 := blk_cell hr 1
      have q2 := blk_cell hr 2
      have q3 := blk_cell hr 3
      have q4 := blk_cell hr 4
      refine bodyPost_ret (v := .tuple #[.agg #[.int .i64 1, .string ⟨#[]⟩, .slice A6 n6 c6, .slice B6 m6 d6, .int .i64 (i : Int)], .int .i64 (j : Int), .int .i64 (-1)]) (by simp [results, Try.results40, go_sem, q0, q1, q2, q3, q4]) rfl ?_
      refine ⟨below_five HB7.out (Nat.le_refl _) (.int .i64 1) (.string ⟨#[]⟩) (.slice A6 n6 c6) (.slice B6 m6 d6) (.int .i64 (i : Int)), _, j, -1, rfl, ⟨_, _, _, _, _, _, _, rfl, (((((HLIT7.out.set (fun b hb => by omega)).set (fun b hb => by omega)).set (fun b hb => by omega)).set (fun b hb => by omega)).set (fun b hb => by omega)).from (fun b hb => by omega)⟩, .inr ⟨rfl, by omega, by omega⟩, ?_⟩
      intro jj hjj
      rw [HR1N.out] at hjj
      cases hjj
     ·have hne : ((acc.length : Int) + 1 == 1) = false := beq_eq_false_iff_ne.2 (by omega)
      have HLIT5 := Lib.hid ((HLIT4.out.set (g := w.heap.size + 1) (i := 2) (u := .slice A4 n4 c4) (fun b (hb : w2.heap.size ≤ b) => by omega)).mono (T := fun b => w.heap.size + 1 < b) (Nat.le_refl _) (fun b (hb : w2.heap.size ≤ b) _ => ⟨by omega, rfl⟩))
      have HLIT6 := Lib.hid (HLIT5.out.set (g := w.heap.size + 1) (i := 3) (u := .slice B4 m4 d4) (fun b hb => by omega))
      have HB5 := Lib.hid (below_set (below_set HB4.out (g := w.heap.size + 1) (by omega) 2 (.slice A4 n4 c4)) (g := w.heap.size + 1) (by omega) 3 (.slice B4 m4 d4))
      have HRES5 := Lib.hid (blk_far (p := ⟨w.heap.size + 1, 3, none⟩) (blk_far (p := ⟨w.heap.size + 1, 2, none⟩) HRES4.out (by simp) (.slice A4 n4 c4)) (by simp) (.slice B4 m4 d4))
      clear hone
      go_wp2_with fail
      have hr := five_blk HRES5.out (.int .i64 1) (.string ⟨#[]⟩) (.slice A4 n4 c4) (.slice B4 m4 d4) (.int .i64 (i : Int))
      unfold fiveSet at hr
      have q0 := blk_cell hr 0
      have q1 := blk_cell hr 1
      have q2 := blk_cell hr 2
      have q3 := blk_cell hr 3
      have q4 := blk_cell hr 4
      refine bodyPost_ret (v := .tuple #[.agg #[.int .i64 1, .string ⟨#[]⟩, .slice A4 n4 c4, .slice B4 m4 d4, .int .i64 (i : Int)], .int .i64 (j : Int), .int .i64 (-1)]) (by simp [results, Try.results40, go_sem, q0, q1, q2, q3, q4]) rfl ?_
      refine ⟨below_five HB5.out (Nat.le_refl _) (.int .i64 1) (.string ⟨#[]⟩) (.slice A4 n4 c4) (.slice B4 m4 d4) (.int .i64 (i : Int)), _, j, -1, rfl, ⟨_, _, _, _, _, _, _, rfl, (((((HLIT6.out.set (fun b hb => by omega)).set (fun b hb => by omega)).set (fun b hb => by omega)).set (fun b hb => by omega)).set (fun b hb => by omega)).from (fun b hb => by omega)⟩, .inr ⟨rfl, by omega, by omega⟩, ?_⟩
      intro jj hjj
      rw [HR1N.out] at hjj
      cases hjj
end Go.Proofs.Ytollglblkbjgjaa
