/- Contract of the lexer's name. Conditions: the lexer's block reads in memory; a letter stands at its place. -/
import Derived.Test.YtiboikbccmfedaaAe
import Derived.Test.YtiboikbccmfedaaKi
namespace Go.Proofs.Ytiboikbccmfedaa
open Go.RowKit

/-- a word as a value -/
def tokVal (t : Kx.Tok) (a0 a1 : Value) : Value := .agg #[.int .i64 t.kind, .string (strOfNums t.text), a0, a1, .int .i64 (t.at_ : Int)]
/-- behind a word: it and the place, or a fault -/
def WordIs (R : Kx.Word) (g : Nat) (s : ByteArray) (v : Value) (fp : Int) (w : World) (e : Ending) (w' : World) : Prop :=
  match R with
  | .bad er j => ∃ (k : Int) (x : ByteArray) (A : Option Addr) (n c : Nat) (B : Option Addr) (m d : Nat) (p : Int), e = .returned (.agg #[.int .i64 k, .string x, .slice A n c, .slice B m d, .int .i64 p]) ∧ ∃ q, Moves g s v q er (j : Int) w w'
  | .good t j => ∃ a0 a1, e = .returned (tokVal t a0 a1) ∧ LitAt (w.heap.size ≤ ·) w' (.agg #[a0, a1]) t.lit ∧ Moves g s v j 0 fp w w'
theorem low_is {c : Int} {b : Bool} (h : Kx.low c = b) (W : World) : Calls Try.prog 25 #[.int .u8 c] W fun e w' => e = .returned (.bool b) ∧ w' = W := by
  subst h
  exact low_any c W
theorem lit_none {S : Nat → Prop} (w : World) : LitAt S w (.agg #[.slice none 0 0, .slice none 0 0]) ⟨[], []⟩ := ⟨_, _, _, _, _, _, rfl, rfl, rfl, by omega, by omega, fun h => absurd h (Nat.lt_irrefl 0), fun h => absurd h (Nat.lt_irrefl 0)⟩

/-- a word is laid into the result's variable -/
def fiveSet (w : World) (B : Nat) (a0 a1 a2 a3 a4 : Value) : World := ((((w.setCell ⟨B, 0, none⟩ a0).setCell ⟨B, 1, none⟩ a1).setCell ⟨B, 2, none⟩ a2).setCell ⟨B, 3, none⟩ a3).setCell ⟨B, 4, none⟩ a4
theorem five_cells {w : World} {B : Nat} {o0 o1 o2 o3 o4 : Value} (h0 : w.heap[B]? = some (.cells #[o0, o1, o2, o3, o4] 34 (0, 0))) (a0 a1 a2 a3 a4 : Value) :
    (fiveSet w B a0 a1 a2 a3 a4).cell? ⟨B, 0, none⟩ = some a0 ∧ (fiveSet w B a0 a1 a2 a3 a4).cell? ⟨B, 1, none⟩ = some a1 ∧ (fiveSet w B a0 a1 a2 a3 a4).cell? ⟨B, 2, none⟩ = some a2 ∧ (fiveSet w B a0 a1 a2 a3 a4).cell? ⟨B, 3, none⟩ = some a3 ∧ (fiveSet w B a0 a1 a2 a3 a4).cell? ⟨B, 4, none⟩ = some a4 := by
  have g0 := blk_set (blk_set (blk_set (blk_set (blk_set h0 0 a0) 1 a1) 2 a2) 3 a3) 4 a4
  refine ⟨(blk_cell g0 0).trans ?_, (blk_cell g0 1).trans ?_, (blk_cell g0 2).trans ?_, (blk_cell g0 3).trans ?_, (blk_cell g0 4).trans ?_⟩ <;> simp
theorem five_moves {g : Nat} {s : ByteArray} {v : Value} {k : Nat} {er fp : Int} {w w' : World} {B : Nat} (h : Moves g s v k er fp w w') (hB : w.heap.size ≤ B) (hg : g < w.heap.size) (a0 a1 a2 a3 a4 : Value) : Moves g s v k er fp w (fiveSet w' B a0 a1 a2 a3 a4) :=
  moves_old (moves_old (moves_old (moves_old (moves_old h hB hg 0 a0) hB hg 1 a1) hB hg 2 a2) hB hg 3 a3) hB hg 4 a4

set_option maxRecDepth 100000 in
set_option maxHeartbeats 4000000 in
theorem name_any (g : Nat) (s : ByteArray) (v : Value) (i : Nat) (fp : Int) (w : World) (hg : w.heap[g]? = some (acell s v i 0 fp)) (hi : i < s.size) (hs : s.size ≤ 100000) (hlow : Kx.low (Kx.gt (nb s) i) = true) :
    Calls Try.prog 26 #[.pointer (some ⟨g, 0, none⟩)] w (WordIs (if Kx.span Kx.alnum ((nb s).drop i) ≤ 8 then .good ⟨3, ((nb s).drop i).take (Kx.span Kx.alnum ((nb s).drop i)), ⟨[], []⟩, i⟩ (i + Kx.span Kx.alnum ((nb s).drop i)) else .bad 2 i) g s v fp w) := by
  have hgl := blk_lt hg
  have HG := Lib.hid hg
  clear hg
  have h1 := Kx.span_pos (p := Kx.alnum) (l := nb s) (i := i) (by simp [Kx.alnum, hlow]) (by rw [nb_length]; exact hi)
  have h2 := Kx.span_le Kx.alnum ((nb s).drop i)
  rw [List.length_drop, nb_length] at h2
  have hin : ∀ q, q < Kx.span Kx.alnum ((nb s).drop i) → Kx.alnum (Kx.gt (nb s) (i + q)) = true := fun q hq => by rw [Kx.gt_drop]; exact Kx.span_lt Kx.alnum _ q hq
  have hout : Kx.alnum (Kx.gt (nb s) (i + Kx.span Kx.alnum ((nb s).drop i))) = false := by
    rcases Nat.lt_or_ge (i + Kx.span Kx.alnum ((nb s).drop i)) s.size with h | h
    · rw [Kx.gt_drop]
      exact Kx.span_end Kx.alnum _ (by rw [List.length_drop, nb_length]; omega)
    · rw [gt_past s _ h]; rfl
  generalize Kx.span Kx.alnum ((nb s).drop i) = m at *
  have HIN := Lib.hid hin
  have HOUT := Lib.hid hout
  clear hin hout
  obtain ⟨R, hR⟩ : ∃ R, (if m ≤ 8 then Kx.Word.good ⟨3, ((nb s).drop i).take m, ⟨[], []⟩, i⟩ (i + m) else .bad 2 i) = R := ⟨_, rfl⟩
  rw [hR]
  have HR := Lib.hid hR
  clear hR
  go_enter Try.func26, Try.ntmps26
  go_wp2
  go_loopw [3] (fun k wr => ∃ q : Nat, 1 ≤ q ∧ q ≤ m ∧ k = .int .i64 q ∧ Moves g s v i 0 fp w wr ∧ wr.heap[w.heap.size]? = some (.cells #[.int .i64 0, .string ⟨#[]⟩, .slice none 0 0, .slice none 0 0, .int .i64 0] 34 (0, 0))) (fun k _ => m - (intOf k).toNat)
  case atStart => exact ⟨1, Nat.le_refl _, h1, rfl, moves_alloc (moves_refl HG.out) _, blk_new w _⟩
  case round =>
    obtain ⟨q, hq1, hq, rfl, hm, hres⟩ := hrel
    have HM := Lib.hid hm
    have HRES := Lib.hid hres
    clear hm hres
    by_cases hlt : q < m
    · have hal := HIN.out q hlt
      go_wp2_with fail
      refine (byte_any g s v i 0 fp q wr HM.out.2 (by omega) (by omega)).mono ?_
      rintro e w1 ⟨rfl, n1, rfl⟩
      generalize hcq : Kx.gt (nb s) (i + q) = c at *
      have HCQ := Lib.hid hcq
      clear hcq
      have HM1 := Lib.hid (moves_drewN HM.out n1)
      have HRES1 := Lib.hid (show (wr.drewN n1).heap[w.heap.size]? = _ from HRES.out)
      obtain ⟨W1, hW1⟩ : ∃ W1, wr.drewN n1 = W1 := ⟨_, rfl⟩
      rw [hW1] at HM1 HRES1 ⊢
      clear hW1
      cases hlc : Kx.low c
      · have hdc : Kx.dig c = true := by unfold Kx.alnum at hal; rw [hlc] at hal; exact hal
        have HL := Lib.hid (low_is hlc)
        have HD := Lib.hid (dig_is hdc)
        clear hal hlc hdc
        go_wp2_with fail
        refine (HL.out _).mono ?_
        rintro e w2 ⟨rfl, rfl⟩
        go_wp2_with fail
        refine (byte_any g s v i 0 fp q _ HM1.out.2 (by omega) (by omega)).mono ?_
        rintro e w3 ⟨rfl, n3, rfl⟩
        rw [HCQ.out]
        have HM3 := Lib.hid (moves_drewN HM1.out n3)
        have HRES3 := Lib.hid (show (w2.drewN n3).heap[w.heap.size]? = _ from HRES1.out)
        obtain ⟨W3, hW3⟩ : ∃ W3, w2.drewN n3 = W3 := ⟨_, rfl⟩
        rw [hW3] at HM3 HRES3 ⊢
        clear hW3
        go_wp2_with fail
        refine (HD.out _).mono ?_
        rintro e w4 ⟨rfl, rfl⟩
        go_wp2
        go_roundw
        case rel => exact ⟨q + 1, by omega, by omega, by go_num, HM3.out, HRES3.out⟩
        case measure => simp [intOf]; omega
      · have HL := Lib.hid (low_is hlc)
        clear hal hlc
        go_wp2_with fail
        refine (HL.out _).mono ?_
        rintro e w2 ⟨rfl, rfl⟩
        go_wp2
        go_roundw
        case rel => exact ⟨q + 1, by omega, by omega, by go_num, HM1.out, HRES1.out⟩
        case measure => simp [intOf]; omega
    · obtain rfl : m = q := by omega
      have hou := HOUT.out
      go_wp2_with fail
      refine (byte_any g s v i 0 fp m wr HM.out.2 (by omega) (by omega)).mono ?_
      rintro e w1 ⟨rfl, n1, rfl⟩
      generalize hcq : Kx.gt (nb s) (i + m) = c at *
      have HCQ := Lib.hid hcq
      clear hcq
      have HM1 := Lib.hid (moves_drewN HM.out n1)
      have HRES1 := Lib.hid (show (wr.drewN n1).heap[w.heap.size]? = _ from HRES.out)
      obtain ⟨W1, hW1⟩ : ∃ W1, wr.drewN n1 = W1 := ⟨_, rfl⟩
      rw [hW1] at HM1 HRES1 ⊢
      clear hW1
      have hlc : Kx.low c = false := by unfold Kx.alnum at hou; exact (Bool.or_eq_false_iff.1 hou).1
      have hdc : Kx.dig c = false := by unfold Kx.alnum at hou; exact (Bool.or_eq_false_iff.1 hou).2
      have HL := Lib.hid (low_is hlc)
      have HD := Lib.hid (dig_is hdc)
      clear hou hlc hdc
      go_wp2_with fail
      refine (HL.out _).mono ?_
      rintro e w2 ⟨rfl, rfl⟩
      go_wp2_with fail
      refine (byte_any g s v i 0 fp m _ HM1.out.2 (by omega) (by omega)).mono ?_
      rintro e w3 ⟨rfl, n3, rfl⟩
      rw [HCQ.out]
      have HM3 := Lib.hid (moves_drewN HM1.out n3)
      have HRES3 := Lib.hid (show (w2.drewN n3).heap[w.heap.size]? = _ from HRES1.out)
      obtain ⟨W3, hW3⟩ : ∃ W3, w2.drewN n3 = W3 := ⟨_, rfl⟩
      rw [hW3] at HM3 HRES3 ⊢
      clear hW3
      go_wp2_with fail
      refine (HD.out _).mono ?_
      rintro e w4 ⟨rfl, rfl⟩
      obtain ⟨K, hK⟩ : ∃ K, i + m = K := ⟨_, rfl⟩
      have hiK : (i : Int) + (m : Int) = (K : Int) := by omega
      have hKs : K ≤ s.size := by omega
      have hex := extract_nb s i m
      rw [hK] at hex
      have e0 := blk_cell HM3.out.2 0
      have e1 := blk_cell HM3.out.2 1
      have ef := blk_frozen HM3.out.2 1
      have hg4 := blk_lt HM3.out.2
      generalize hst : strOfNums (((nb s).drop i).take m) = st at *
      have HST := Lib.hid hst
      have HK := Lib.hid hK
      clear HM HRES HM1 HRES1 HL HD HIN HOUT HCQ hst hK hlow
      go_wp2
      go_region
      have hm5 := moves_drew (moves_alloc HM3.out (Obj.cells #[.int .i64 3, .string st, .slice none 0 0, .slice none 0 0, .int .i64 (i : Int)] 34))
      have hb5 : ((w4.alloc (Obj.cells #[.int .i64 3, .string st, .slice none 0 0, .slice none 0 0, .int .i64 (i : Int)] 34)).drew).heap[w4.heap.size]? = _ := blk_new w4 (Obj.cells #[.int .i64 3, .string st, .slice none 0 0, .slice none 0 0, .int .i64 (i : Int)] 34)
      have hr5 : ((w4.alloc (Obj.cells #[.int .i64 3, .string st, .slice none 0 0, .slice none 0 0, .int .i64 (i : Int)] 34)).drew).heap[w.heap.size]? = _ := blk_alloc HRES3.out (Obj.cells #[.int .i64 3, .string st, .slice none 0 0, .slice none 0 0, .int .i64 (i : Int)] 34)
      have hwB : w.heap.size < w4.heap.size := blk_lt HRES3.out
      obtain ⟨W5, hW5⟩ : ∃ W5, (w4.alloc (Obj.cells #[.int .i64 3, .string st, .slice none 0 0, .slice none 0 0, .int .i64 (i : Int)] 34)).drew = W5 := ⟨_, rfl⟩
      rw [hW5] at hm5 hb5 hr5 ⊢
      clear hW5 HM3 HRES3 e0 e1 ef
      generalize w4.heap.size = B at *
      have HM5 := Lib.hid hm5
      have HB5 := Lib.hid hb5
      have HR5 := Lib.hid hr5
      have e1 := blk_cell hm5.2 1
      clear hm5 hb5 hr5
      by_cases h8 : m ≤ 8
      · have hd8 : decide (8 < m) = false := decide_eq_false (by omega)
        have hRR := HR.out
        rw [if_pos h8] at hRR
        subst hRR
        have HM6 := HM5
        have HB6 := HB5
        have HRES6 := HR5
        clear e1
        have hm7 := moves_set HM6.out K
        have HM7 := Lib.hid hm7
        have hr7 := blk_far (p := ⟨g, 1, none⟩) HRES6.out (by simp; omega) (.int .i64 (K : Int))
        have HR7 := Lib.hid hr7
        have b7 := blk_far (p := ⟨g, 1, none⟩) HB6.out (by simp; omega) (.int .i64 (K : Int))
        have HB7 := Lib.hid b7
        have z1 := blk_cell HM6.out.2 1
        have zf := blk_frozen HM6.out.2 1
        have y0 := blk_cell HB6.out 0
        have y1 := blk_cell HB6.out 1
        have y2 := blk_cell HB6.out 2
        have y3 := blk_cell HB6.out 3
        have y4 := blk_cell HB6.out 4
        have x0 := blk_cell HRES6.out 0
        have x1 := blk_cell HRES6.out 1
        have x2 := blk_cell HRES6.out 2
        have x3 := blk_cell HRES6.out 3
        have x4 := blk_cell HRES6.out 4
        have xf0 := blk_frozen HRES6.out 0
        have xf1 := blk_frozen HRES6.out 1
        have xf2 := blk_frozen HRES6.out 2
        have xf3 := blk_frozen HRES6.out 3
        have xf4 := blk_frozen HRES6.out 4
        clear hr7 b7 hm7
        go_wp2
        obtain ⟨q0, q1, q2, q3, q4⟩ := five_cells HR7.out (.int .i64 3) (.string st) (.slice none 0 0) (.slice none 0 0) (.int .i64 (i : Int))
        unfold fiveSet at q0 q1 q2 q3 q4
        refine bodyPost_ret (v := .agg #[.int .i64 3, .string st, .slice none 0 0, .slice none 0 0, .int .i64 (i : Int)]) (by simp [results, Try.results26, go_sem, q0, q1, q2, q3, q4]) rfl ?_
        rw [← HST.out, HK.out]
        exact ⟨.slice none 0 0, .slice none 0 0, rfl, lit_none _, five_moves HM7.out (Nat.le_refl _) hgl _ _ _ _ _⟩
      · have hd8 : decide (8 < m) = true := decide_eq_true (by omega)
        have hRR := HR.out
        rw [if_neg h8] at hRR
        subst hRR
        go_wp2_with fail
        refine (fail_any g s v i fp 2 (i : Int) W5 HM5.out.2).mono ?_
        rintro e w6 ⟨rfl, hm6⟩
        have HB6 := Lib.hid (blk_grown HB5.out hm6.1 (by intro e; cases e; omega))
        have HRES6 := Lib.hid (blk_grown HR5.out hm6.1 (by intro e; cases e; omega))
        have HM6 := Lib.hid (moves_step HM5.out hm6)
        clear hm6 e1
        have hm7 := moves_set HM6.out K
        have HM7 := Lib.hid hm7
        have hr7 := blk_far (p := ⟨g, 1, none⟩) HRES6.out (by simp; omega) (.int .i64 (K : Int))
        have HR7 := Lib.hid hr7
        have b7 := blk_far (p := ⟨g, 1, none⟩) HB6.out (by simp; omega) (.int .i64 (K : Int))
        have HB7 := Lib.hid b7
        have z1 := blk_cell HM6.out.2 1
        have zf := blk_frozen HM6.out.2 1
        have y0 := blk_cell HB6.out 0
        have y1 := blk_cell HB6.out 1
        have y2 := blk_cell HB6.out 2
        have y3 := blk_cell HB6.out 3
        have y4 := blk_cell HB6.out 4
        have x0 := blk_cell HRES6.out 0
        have x1 := blk_cell HRES6.out 1
        have x2 := blk_cell HRES6.out 2
        have x3 := blk_cell HRES6.out 3
        have x4 := blk_cell HRES6.out 4
        have xf0 := blk_frozen HRES6.out 0
        have xf1 := blk_frozen HRES6.out 1
        have xf2 := blk_frozen HRES6.out 2
        have xf3 := blk_frozen HRES6.out 3
        have xf4 := blk_frozen HRES6.out 4
        clear hr7 b7 hm7
        go_wp2
        obtain ⟨q0, q1, q2, q3, q4⟩ := five_cells HR7.out (.int .i64 3) (.string st) (.slice none 0 0) (.slice none 0 0) (.int .i64 (i : Int))
        unfold fiveSet at q0 q1 q2 q3 q4
        refine bodyPost_ret (v := .agg #[.int .i64 3, .string st, .slice none 0 0, .slice none 0 0, .int .i64 (i : Int)]) (by simp [results, Try.results26, go_sem, q0, q1, q2, q3, q4]) rfl ?_
        exact ⟨_, _, _, _, _, _, _, _, _, rfl, K, five_moves HM7.out (Nat.le_refl _) hgl _ _ _ _ _⟩
end Go.Proofs.Ytiboikbccmfedaa
