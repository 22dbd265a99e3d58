/- Contract of the lexer's numbers. Conditions: the lexer's block reads in memory; a number begins at its place. -/
import Derived.Test.YtiboikbccmfedaaAf
namespace Go.Proofs.Ytiboikbccmfedaa
open Go.RowKit

theorem own_grown {w w1 : World} {base n : Nat} {e : TypeId} {size : Nat} {v : Value} {xs : List Value} {g : Nat} (h : w.ownsRow base e size v n xs) (hb : w.grownBy w1 (some g)) (hg : g < base) : w1.ownsRow base e size v n xs := by
  obtain ⟨h1, h2⟩ := h
  refine ⟨h1, ?_⟩
  rcases h2 with h2 | ⟨k, cap, cur, rfl, hbg, hk, r⟩
  · exact .inl h2
  · exact .inr ⟨k, cap, cur, rfl, hbg, blk_grown hk hb (by intro e; cases e; omega), r⟩
theorem info2 : (Try.prog.info? 2).map (fun i => (i.zero, i.size, i.bytes)) = some (some (.int .i64 0), 1, 8) := by kernel_rfl
/-- what comes behind a number that was read -/
def contAt (f : Nat) (l : List Int) (j : Nat) (acc : List Int) : Kx.Nums :=
  if Kx.span Kx.blank (l.drop j) = 0 ∨ Kx.begins l (j + Kx.span Kx.blank (l.drop j)) = false then .good acc j
  else Kx.numsAt f l (j + Kx.span Kx.blank (l.drop j)) acc
theorem nums_cont (f : Nat) (l : List Int) (i : Nat) (acc : List Int) : Kx.numsAt (f + 1) l i acc = if (Kx.numAt l i).2.2 then contAt f l (Kx.numAt l i).2.1 (acc ++ [(Kx.numAt l i).1]) else .bad i := by
  rw [Kx.numsAt]
  rfl
/-- numbers as a word -/
def numsWord (i : Nat) : Kx.Nums → Kx.Word
  | .bad j => .bad 2 j
  | .good xs j => .good ⟨1, [], Kx.litNums xs, i⟩ j
/-- how far the numbers have come -/
def NumsRel (R : Kx.Nums) (s : ByteArray) (fp : Int) (gk J : Nat) (er fq : Int) (acc : List Int) : Prop :=
  (er = 0 ∧ fq = fp ∧ J ≤ s.size ∧ s.size < J + gk ∧ contAt gk (nb s) J acc = R) ∨ (er = 2 ∧ ∃ p : Nat, fq = (p : Int) ∧ R = .bad p)
theorem own_one (w : World) (x : Int) (base : Nat) (hb : base ≤ w.heap.size) : (w.alloc (.cells #[.int .i64 x] 2)).ownsRow base 2 1 (.slice (some ⟨w.heap.size, 0, none⟩) 1 1) 1 (nums .i64 [x]) := by
  have := World.ownsRow_lit (base := base) (e := 2) (size := 1) w (nums .i64 [x]).toArray 1 hb (by unfold maxLen; omega) (by simp [nums])
  simpa [nums] using this

theorem lit_form {S : Nat → Prop} {w : World} {v : Value} {t : Kx.Lit} (h : LitAt S w v t) : ∃ A n c B m d, v = .agg #[.slice A n c, .slice B m d] := by
  obtain ⟨A, n, c, B, m, d, h1, _⟩ := h
  exact ⟨A, n, c, B, m, d, h1⟩
theorem lit_far {n : Nat} {w5 : World} {v u : Value} {t : Kx.Lit} {p : Addr} (h : LitAt (n ≤ ·) w5 v t) (hp : p.block < n) : LitAt (n ≤ ·) (w5.setCell p u) v t :=
  h.mono (by simp [World.setCell]) (fun b (hS : n ≤ b) hb => ⟨hS, Below.heap_setCell w5 p u b (by omega)⟩)
theorem lit_five {n : Nat} {w5 : World} {B : Nat} {v a0 a1 a2 a3 a4 : Value} {t : Kx.Lit} (h : LitAt (n ≤ ·) w5 v t) (hB : B < n) : LitAt (B ≤ ·) (fiveSet w5 B a0 a1 a2 a3 a4) v t :=
  (lit_far (lit_far (lit_far (lit_far (lit_far h (p := ⟨B, 0, none⟩) hB) (p := ⟨B, 1, none⟩) hB) (p := ⟨B, 2, none⟩) hB) (p := ⟨B, 3, none⟩) hB) (p := ⟨B, 4, none⟩) hB).mono (Nat.le_refl _) (fun b (hS : n ≤ b) _ => ⟨Nat.le_trans (Nat.le_of_lt hB) hS, rfl⟩)
theorem byte_zero (g : Nat) (s : ByteArray) (v : Value) (i : Nat) (er fp : Int) (w : World) (hg : w.heap[g]? = some (acell s v i er fp)) (hi : i ≤ 1000000) : Calls Try.prog 21 #[.pointer (some ⟨g, 0, none⟩), .int .i64 0] w (PeekTo (Kx.gt (nb s) i) w) := byte_at g s v i er fp 0 i w hg (by omega) hi

set_option maxRecDepth 100000 in
set_option maxHeartbeats 8000000 in
theorem numbers_any (g : Nat) (s : ByteArray) (v : Value) (i : Nat) (fp : Int) (w : World) (hg : w.heap[g]? = some (acell s v i 0 fp)) (hb : Kx.begins (nb s) i = true) (hs : s.size ≤ 100000) :
    Calls Try.prog 23 #[.pointer (some ⟨g, 0, none⟩)] w (WordIs (numsWord i (Kx.numsAt ((nb s).length + 1) (nb s) i [])) g s v fp w) := by
  obtain ⟨i2, hi2, hz2, hs2, hb2⟩ := info_parts info2
  have hgl := blk_lt hg
  have hnl := nb_length s
  have hlt := Kx.begins_lt hb
  have hst := Kx.num_step hb
  have HG := Lib.hid hg
  obtain ⟨R, hR⟩ : ∃ R, Kx.numsAt ((nb s).length + 1) (nb s) i [] = R := ⟨_, rfl⟩
  rw [hR]
  rw [nums_cont] at hR
  have HRR := Lib.hid hR
  have c1 := blk_cell hg 1
  clear hg hR hb
  go_enter Try.func23, Try.ntmps23
  go_wp2_with fail
  have hm0 := moves_alloc (moves_alloc (moves_refl HG.out) (.cells #[.int .i64 0, .string ⟨#[]⟩, .slice none 0 0, .slice none 0 0, .int .i64 0] 34)) (.cells #[.int .i64 1, .string ⟨#[]⟩, .slice none 0 0, .slice none 0 0, .int .i64 (i : Int)] 34)
  have h20 := blk_alloc (blk_new w (.cells #[.int .i64 0, .string ⟨#[]⟩, .slice none 0 0, .slice none 0 0, .int .i64 0] 34)) (.cells #[.int .i64 1, .string ⟨#[]⟩, .slice none 0 0, .slice none 0 0, .int .i64 (i : Int)] 34)
  have h30 := blk_new (w.alloc (.cells #[.int .i64 0, .string ⟨#[]⟩, .slice none 0 0, .slice none 0 0, .int .i64 0] 34)) (.cells #[.int .i64 1, .string ⟨#[]⟩, .slice none 0 0, .slice none 0 0, .int .i64 (i : Int)] 34)
  rw [show (w.alloc (.cells #[.int .i64 0, .string ⟨#[]⟩, .slice none 0 0, .slice none 0 0, .int .i64 0] 34)).heap.size = w.heap.size + 1 by simp] at h30
  obtain ⟨W0, hW0⟩ : ∃ W0, (w.alloc (.cells #[.int .i64 0, .string ⟨#[]⟩, .slice none 0 0, .slice none 0 0, .int .i64 0] 34)).alloc (.cells #[.int .i64 1, .string ⟨#[]⟩, .slice none 0 0, .slice none 0 0, .int .i64 (i : Int)] 34) = W0 := ⟨_, rfl⟩
  rw [hW0] at hm0 h20 h30 ⊢
  have hz0 : W0.heap.size = w.heap.size + 2 := by rw [← hW0]; simp
  clear hW0 c1
  refine (one_num g s v i fp W0 hm0.2 (by omega) hs).mono ?_
  rintro e w1 ⟨x, rfl, hx⟩
  generalize hr1 : Kx.numAt (nb s) i = r1 at *
  obtain ⟨x1, j1, ok⟩ := r1
  dsimp only at hx hst HRR
  have hb1 : W0.grownBy w1 (some g) := by
    cases ok
    · exact hx.1
    · exact hx.2.1
  have h21 := blk_grown h20 hb1 (by intro e; cases e; omega)
  have h31 := blk_grown h30 hb1 (by intro e; cases e; omega)
  have hz1 := hb1.size
  have hrel : ∃ (J : Nat) (er fq : Int), Moves g s v J er fq w w1 ∧ [x].length ≤ J ∧ J ≤ s.size ∧ NumsRel R s fp (nb s).length J er fq [x] := by
    cases ok
    · exact ⟨j1, 2, _, moves_step hm0 hx, by simp; omega, by omega, .inr ⟨rfl, i, rfl, by rw [← HRR.out]; rfl⟩⟩
    · obtain ⟨rfl, hx⟩ := hx
      exact ⟨j1, 0, _, moves_step hm0 hx, by simp; omega, by omega, .inl ⟨rfl, rfl, by omega, by omega, by rw [← HRR.out]; rfl⟩⟩
  have HREL := Lib.hid hrel
  have H21 := Lib.hid h21
  have H31 := Lib.hid h31
  clear hx hr1 hb1 h20 h30 h21 h31 hrel hm0
  go_wp2
  go_loopg [4] (nb s).length (fun gk u wr => ∃ (acc : List Int) (J : Nat) (er fq : Int), acc.length ≤ J ∧ 1 ≤ acc.length ∧ J ≤ 200000 ∧ NumsRel R s fp gk J er fq acc ∧ Moves g s v J er fq w wr ∧ wr.heap[w.heap.size]? = some (.cells #[.int .i64 0, .string ⟨#[]⟩, .slice none 0 0, .slice none 0 0, .int .i64 0] 34 (0, 0)) ∧ wr.heap[w.heap.size + 1]? = some (.cells #[.int .i64 1, .string ⟨#[]⟩, .slice none 0 0, .slice none 0 0, .int .i64 (i : Int)] 34 (0, 0)) ∧ wr.ownsRow (w.heap.size + 2) 2 1 u acc.length (nums .i64 acc))
  case atStart =>
    obtain ⟨J, er, fq, h1, h2, h4, h3⟩ := HREL.out
    exact ⟨[x], J, er, fq, h2, by simp, by omega, h3, moves_alloc h1 _, blk_alloc H21.out _, blk_alloc H31.out _, own_one w1 x _ (by omega)⟩
  case round =>
    obtain ⟨acc, J, er, fq, haJ, ha1, hJ2, hrel, hm, h2, h3, hown⟩ := hrel
    obtain ⟨uA, uc, rfl, hvc⟩ := own_slice hown
    have HM := Lib.hid hm
    have HT2 := Lib.hid h2
    have HT3 := Lib.hid h3
    have HOWN := Lib.hid hown
    have e3 := blk_cell hm.2 3
    have e1 := blk_cell hm.2 1
    clear hm h2 h3 hown
    rcases hrel with ⟨rfl, hfq, hJs, hJf, hc⟩ | ⟨rfl, p, rfl, hc⟩
    · obtain rfl : fp = fq := hfq.symm
      obtain ⟨G, rfl⟩ : ∃ G, gk = G + 1 := ⟨gk - 1, by omega⟩
      have HCT := Lib.hid hc
      clear hc
      go_wp2
      obtain ⟨b, hbq⟩ : ∃ b, Kx.span Kx.blank ((nb s).drop J) = b := ⟨_, rfl⟩
      have hbl := Kx.span_le Kx.blank ((nb s).drop J)
      rw [List.length_drop, hnl, hbq] at hbl
      have hin : ∀ q, q < b → Kx.gt (nb s) (J + q) = 32 := fun q hq => by
        have := Kx.span_lt Kx.blank ((nb s).drop J) q (by rw [hbq]; exact hq)
        rw [← Kx.gt_drop] at this
        exact beq_iff_eq.1 this
      have hout : ¬ Kx.gt (nb s) (J + b) = 32 := by
        rcases Nat.lt_or_ge (J + b) s.size with h | h
        · have := Kx.span_end Kx.blank ((nb s).drop J) (by rw [hbq, List.length_drop, hnl]; omega)
          rw [hbq, ← Kx.gt_drop] at this
          exact beq_eq_false_iff_ne.1 this
        · rw [gt_past s _ h]; decide
      have hct := HCT.out
      unfold contAt at hct
      rw [hbq] at hct
      have HCT2 := Lib.hid hct
      have HIN := Lib.hid hin
      have HOUT := Lib.hid hout
      clear hct hin hout hbq HCT
      go_loopg [] b (fun f2 wr2 => ∃ q : Nat, q + f2 = b ∧ Moves g s v (J + q) 0 fp w wr2 ∧ wr2.heap[w.heap.size]? = some (.cells #[.int .i64 0, .string ⟨#[]⟩, .slice none 0 0, .slice none 0 0, .int .i64 0] 34 (0, 0)) ∧ wr2.heap[w.heap.size + 1]? = some (.cells #[.int .i64 1, .string ⟨#[]⟩, .slice none 0 0, .slice none 0 0, .int .i64 (i : Int)] 34 (0, 0)) ∧ wr2.ownsRow (w.heap.size + 2) 2 1 (.slice uA acc.length uc) acc.length (nums .i64 acc))
      case atStart => exact ⟨0, by omega, HM.out, HT2.out, HT3.out, HOWN.out⟩
      case round =>
        obtain ⟨q, hqf, hm, h2, h3, ho⟩ := hrel
        by_cases hq : q < b
        · have hgt := HIN.out q hq
          obtain ⟨f3, rfl⟩ : ∃ f3, gk = f3 + 1 := ⟨gk - 1, by omega⟩
          have HMi := Lib.hid hm
          have H2i := Lib.hid h2
          have H3i := Lib.hid h3
          have HOi := Lib.hid ho
          clear hm h2 h3 ho
          go_wp2_with fail
          refine (byte_zero g s v (J + q) 0 fp _ HMi.out.2 (by omega)).mono ?_
          rintro e w6 ⟨rfl, n6, rfl⟩
          rw [hgt]
          have hm6 := moves_drewN HMi.out n6
          have h26 : (wr.drewN n6).heap[w.heap.size]? = _ := H2i.out
          have h36 : (wr.drewN n6).heap[w.heap.size + 1]? = _ := H3i.out
          have ho6 := own_below HOi.out (below_drewN (Below.refl _ wr) n6)
          generalize wr.drewN n6 = w6 at hm6 h26 h36 ho6 ⊢
          have i1 := blk_cell hm6.2 1
          have if1 := blk_frozen hm6.2 1
          have HM6 := Lib.hid hm6
          have H26 := Lib.hid h26
          have H36 := Lib.hid h36
          have HO6 := Lib.hid ho6
          clear hm6 h26 h36 ho6
          have hjq : ((J + q : Nat) : Int) + 1 = ((J + (q + 1) : Nat) : Int) := by omega
          go_wp2
          go_roundg f3
          case measure => exact Nat.lt_succ_self f3
          case rel => exact ⟨q + 1, by omega, moves_set HM6.out (J + (q + 1)), blk_far H26.out (by simp; omega) _, blk_far H36.out (by simp; omega) _, own_far HO6.out (by simp; omega) _⟩
        · obtain rfl : q = b := by omega
          have hgt := HOUT.out
          have HMi := Lib.hid hm
          have H2i := Lib.hid h2
          have H3i := Lib.hid h3
          have HOi := Lib.hid ho
          clear hm h2 h3 ho
          go_wp2_with fail
          refine (byte_zero g s v (J + q) 0 fp _ HMi.out.2 (by omega)).mono ?_
          rintro e w6 ⟨rfl, n6, rfl⟩
          have hgtb : (Kx.gt (nb s) (J + q) == 32) = false := beq_eq_false_iff_ne.2 hgt
          have hm6 := moves_drewN HMi.out n6
          have h26 : (wr.drewN n6).heap[w.heap.size]? = _ := H2i.out
          have h36 : (wr.drewN n6).heap[w.heap.size + 1]? = _ := H3i.out
          have ho6 := own_below HOi.out (below_drewN (Below.refl _ wr) n6)
          generalize wr.drewN n6 = w6 at hm6 h26 h36 ho6 ⊢
          generalize Kx.gt (nb s) (J + q) = cj at *
          have i1 := blk_cell hm6.2 1
          have if1 := blk_frozen hm6.2 1
          have HM6 := Lib.hid hm6
          have H26 := Lib.hid h26
          have H36 := Lib.hid h36
          have HO6 := Lib.hid ho6
          clear hm6 h26 h36 ho6 hgt HMi H2i H3i HOi
          by_cases hq0 : q = 0
          · subst hq0
            have hRg : R = .good acc J := by rw [← HCT2.out, if_pos (.inl rfl)]
            subst hRg
            have HMB := HM6
            have H2B := H26
            have H3B := H36
            have HOB := HO6
            clear HM6 H26 H36 HO6
            have HMt := Lib.hid (moves_set HMB.out J)
            have HT2t := Lib.hid (blk_far (p := ⟨g, 1, none⟩) H2B.out (by simp; omega) (.int .i64 (J : Int)))
            have HT3t := Lib.hid (blk_far (p := ⟨g, 1, none⟩) H3B.out (by simp; omega) (.int .i64 (J : Int)))
            have HOWNt := Lib.hid (own_far (p := ⟨g, 1, none⟩) HOB.out (by simp; omega) (.int .i64 (J : Int)))
            obtain ⟨rA, rc, hrv, _, _, hrl, _, hrr⟩ := own_row HOWNt.out
            cases hrv
            have HRR := Lib.hid hrr
            have hB3t := blk_lt HT3t.out
            clear hrl hrr
            by_cases h1 : acc.length = 1
            · obtain ⟨x, rfl⟩ := List.length_eq_one_iff.1 h1
              obtain ⟨gg, off, hA, hcl⟩ := HRR.out.2 (by simp)
              cases hA
              have hc0 : (w6.setCell ⟨g, 1, none⟩ (.int .i64 (J : Int))).cell? ⟨gg, off, none⟩ = some (.int .i64 x) := hcl 0 (by simp)
              have hgg := (HOWNt.out.lt gg rfl).1
              have hgne : ¬ gg = w.heap.size + 1 := by omega
              have hgne' : ¬ w.heap.size + 1 = gg := by omega
              clear hcl
              go_wp2_with fail
              refine (nums_any _ 1 uc [x] _ HRR.out rfl (by omega)).mono ?_
              rintro e w5 ⟨v5, rfl, hl5, hb5⟩
              obtain ⟨lA, ln, lc, lB, lm, ld, rfl⟩ := lit_form hl5
              have h25 := blk_below HT2t.out hb5 (blk_lt HT2t.out)
              have h35 := blk_below HT3t.out hb5 hB3t
              have hm5 := moves_below HMt.out hb5
              have c5 := cell_below hb5 hc0
              have s2 := blk_cell h35 2
              have s3 := blk_cell h35 3
              have sf2 := blk_frozen h35 2
              have sf3 := blk_frozen h35 3
              have H25 := Lib.hid h25
              have H35 := Lib.hid h35
              have HM5 := Lib.hid hm5
              clear h25 h35 hm5 hl5 hb5 hc0
              go_wp2_with fail
              have hm6 := moves_old (moves_old HM5.out (Nat.le_succ _) hgl 2 (.slice lA ln lc)) (Nat.le_succ _) hgl 3 (.slice lB lm ld)
              have h26 := blk_far (p := ⟨w.heap.size + 1, 3, none⟩) (blk_far (p := ⟨w.heap.size + 1, 2, none⟩) H25.out (by simp) (.slice lA ln lc)) (by simp) (.slice lB lm ld)
              have h36 := blk_set (blk_set H35.out 2 (.slice lA ln lc)) 3 (.slice lB lm ld)
              generalize (w5.setCell ⟨w.heap.size + 1, 2, none⟩ (.slice lA ln lc)).setCell ⟨w.heap.size + 1, 3, none⟩ (.slice lB lm ld) = w6 at hm6 h26 h36 ⊢
              have hsz6 := blk_lt h36
              refine (atom_any x w6).mono ?_
              rintro e w7 ⟨v7, rfl, hl7, hb7⟩
              obtain ⟨XA, xn, xc, XB, xm, xd, rfl⟩ := lit_form hl7
              have H2X := Lib.hid (blk_below h26 hb7 (blk_lt h26))
              have H3X := Lib.hid (blk_below h36 hb7 hsz6)
              have HMX := Lib.hid (moves_below hm6 hb7)
              have hlx : LitAt (w6.heap.size ≤ ·) w7 (.agg #[.slice XA xn xc, .slice XB xm xd]) (Kx.litNums [x]) := hl7
              have HLX := Lib.hid hlx
              have HSX := Lib.hid (show w.heap.size + 1 < w6.heap.size from hsz6)
              clear hm6 h26 h36 hl7 hb7 hlx hsz6 s2 s3 sf2 sf3 c5
              have p0 := blk_cell H3X.out 0
              have p1 := blk_cell H3X.out 1
              have p2 := blk_cell H3X.out 2
              have p3 := blk_cell H3X.out 3
              have p4 := blk_cell H3X.out 4
              have pf2 := blk_frozen H3X.out 2
              have pf3 := blk_frozen H3X.out 3
              have r0 := blk_cell H2X.out 0
              have r1 := blk_cell H2X.out 1
              have r2 := blk_cell H2X.out 2
              have r3 := blk_cell H2X.out 3
              have r4 := blk_cell H2X.out 4
              have rf0 := blk_frozen H2X.out 0
              have rf1 := blk_frozen H2X.out 1
              have rf2 := blk_frozen H2X.out 2
              have rf3 := blk_frozen H2X.out 3
              have rf4 := blk_frozen H2X.out 4
              go_wp2
              have h2z := blk_far (p := ⟨w.heap.size + 1, 3, none⟩) (blk_far (p := ⟨w.heap.size + 1, 2, none⟩) H2X.out (by simp) (.slice XA xn xc)) (by simp) (.slice XB xm xd)
              obtain ⟨q0, q1, q2, q3, q4⟩ := five_cells h2z (.int .i64 1) (.string ⟨#[]⟩) (.slice XA xn xc) (.slice XB xm xd) (.int .i64 (i : Int))
              unfold fiveSet at q0 q1 q2 q3 q4
              refine bodyPost_ret (v := .agg #[.int .i64 1, .string ⟨#[]⟩, .slice XA xn xc, .slice XB xm xd, .int .i64 (i : Int)]) (by simp [results, Try.results23, go_sem, q0, q1, q2, q3, q4]) rfl ?_
              have hmz := five_moves (moves_old (moves_old HMX.out (Nat.le_succ _) hgl 2 (.slice XA xn xc)) (Nat.le_succ _) hgl 3 (.slice XB xm xd)) (Nat.le_refl _) hgl (.int .i64 1) (.string ⟨#[]⟩) (.slice XA xn xc) (.slice XB xm xd) (.int .i64 (i : Int))
              have hlz := lit_five (B := w.heap.size) (a0 := .int .i64 1) (a1 := .string ⟨#[]⟩) (a2 := .slice XA xn xc) (a3 := .slice XB xm xd) (a4 := .int .i64 (i : Int)) (lit_far (p := ⟨w.heap.size + 1, 3, none⟩) (u := .slice XB xm xd) (lit_far (p := ⟨w.heap.size + 1, 2, none⟩) (u := .slice XA xn xc) HLX.out HSX.out) HSX.out) (Nat.lt_of_succ_lt HSX.out)
              exact ⟨_, _, rfl, hlz, hmz⟩
            · have hne : ((acc.length : Int) == 1) = false := beq_eq_false_iff_ne.2 (by omega)
              have hln : Kx.litNums acc = ⟨[(acc.length : Int)], acc.map fun x => (0, x)⟩ := by unfold Kx.litNums; rw [if_neg h1]
              go_wp2_with fail
              refine (nums_any _ acc.length uc acc _ HRR.out rfl (by omega)).mono ?_
              rintro e w5 ⟨v5, rfl, hl5, hb5⟩
              obtain ⟨XA, xn, xc, XB, xm, xd, rfl⟩ := lit_form hl5
              have H2X := Lib.hid (blk_below HT2t.out hb5 (blk_lt HT2t.out))
              have H3X := Lib.hid (blk_below HT3t.out hb5 hB3t)
              have HMX := Lib.hid (moves_below HMt.out hb5)
              rw [← hln] at hl5
              have HLX := Lib.hid hl5
              have HSX := Lib.hid hB3t
              clear hl5 hb5 hln
              have p0 := blk_cell H3X.out 0
              have p1 := blk_cell H3X.out 1
              have p2 := blk_cell H3X.out 2
              have p3 := blk_cell H3X.out 3
              have p4 := blk_cell H3X.out 4
              have pf2 := blk_frozen H3X.out 2
              have pf3 := blk_frozen H3X.out 3
              have r0 := blk_cell H2X.out 0
              have r1 := blk_cell H2X.out 1
              have r2 := blk_cell H2X.out 2
              have r3 := blk_cell H2X.out 3
              have r4 := blk_cell H2X.out 4
              have rf0 := blk_frozen H2X.out 0
              have rf1 := blk_frozen H2X.out 1
              have rf2 := blk_frozen H2X.out 2
              have rf3 := blk_frozen H2X.out 3
              have rf4 := blk_frozen H2X.out 4
              go_wp2
              have h2z := blk_far (p := ⟨w.heap.size + 1, 3, none⟩) (blk_far (p := ⟨w.heap.size + 1, 2, none⟩) H2X.out (by simp) (.slice XA xn xc)) (by simp) (.slice XB xm xd)
              obtain ⟨q0, q1, q2, q3, q4⟩ := five_cells h2z (.int .i64 1) (.string ⟨#[]⟩) (.slice XA xn xc) (.slice XB xm xd) (.int .i64 (i : Int))
              unfold fiveSet at q0 q1 q2 q3 q4
              refine bodyPost_ret (v := .agg #[.int .i64 1, .string ⟨#[]⟩, .slice XA xn xc, .slice XB xm xd, .int .i64 (i : Int)]) (by simp [results, Try.results23, go_sem, q0, q1, q2, q3, q4]) rfl ?_
              have hmz := five_moves (moves_old (moves_old HMX.out (Nat.le_succ _) hgl 2 (.slice XA xn xc)) (Nat.le_succ _) hgl 3 (.slice XB xm xd)) (Nat.le_refl _) hgl (.int .i64 1) (.string ⟨#[]⟩) (.slice XA xn xc) (.slice XB xm xd) (.int .i64 (i : Int))
              have hlz := lit_five (B := w.heap.size) (a0 := .int .i64 1) (a1 := .string ⟨#[]⟩) (a2 := .slice XA xn xc) (a3 := .slice XB xm xd) (a4 := .int .i64 (i : Int)) (lit_far (p := ⟨w.heap.size + 1, 3, none⟩) (u := .slice XB xm xd) (lit_far (p := ⟨w.heap.size + 1, 2, none⟩) (u := .slice XA xn xc) HLX.out HSX.out) HSX.out) (Nat.lt_of_succ_lt HSX.out)
              exact ⟨_, _, rfl, hlz, hmz⟩
          · have hjne : (((J + q : Nat) : Int) == (J : Int)) = false := beq_eq_false_iff_ne.2 (by omega)
            go_wp2_with fail
            refine (number_any g s v (J + q) 0 fp _ HM6.out.2 (by omega)).mono ?_
            rintro e w7 ⟨rfl, n7, rfl⟩
            cases hbeg : Kx.begins (nb s) (J + q)
            · have hRg : R = .good acc J := by rw [← HCT2.out, if_pos (.inr hbeg)]
              subst hRg
              have hm7 := moves_drewN HM6.out n7
              have h27 : (w6.drewN n7).heap[w.heap.size]? = _ := H26.out
              have h37 : (w6.drewN n7).heap[w.heap.size + 1]? = _ := H36.out
              have ho7 := own_below HO6.out (below_drewN (Below.refl _ w6) n7)
              generalize w6.drewN n7 = w7 at hm7 h27 h37 ho7 ⊢
              have k1 := blk_cell hm7.2 1
              have kf1 := blk_frozen hm7.2 1
              have HMB := Lib.hid hm7
              have H2B := Lib.hid h27
              have H3B := Lib.hid h37
              have HOB := Lib.hid ho7
              clear hm7 h27 h37 ho7 HM6 H26 H36 HO6 i1 if1 hbeg
              have HMt := Lib.hid (moves_set HMB.out J)
              have HT2t := Lib.hid (blk_far (p := ⟨g, 1, none⟩) H2B.out (by simp; omega) (.int .i64 (J : Int)))
              have HT3t := Lib.hid (blk_far (p := ⟨g, 1, none⟩) H3B.out (by simp; omega) (.int .i64 (J : Int)))
              have HOWNt := Lib.hid (own_far (p := ⟨g, 1, none⟩) HOB.out (by simp; omega) (.int .i64 (J : Int)))
              obtain ⟨rA, rc, hrv, _, _, hrl, _, hrr⟩ := own_row HOWNt.out
              cases hrv
              have HRR := Lib.hid hrr
              have hB3t := blk_lt HT3t.out
              clear hrl hrr
              by_cases h1 : acc.length = 1
              · obtain ⟨x, rfl⟩ := List.length_eq_one_iff.1 h1
                obtain ⟨gg, off, hA, hcl⟩ := HRR.out.2 (by simp)
                cases hA
                have hc0 : (w7.setCell ⟨g, 1, none⟩ (.int .i64 (J : Int))).cell? ⟨gg, off, none⟩ = some (.int .i64 x) := hcl 0 (by simp)
                have hgg := (HOWNt.out.lt gg rfl).1
                have hgne : ¬ gg = w.heap.size + 1 := by omega
                have hgne' : ¬ w.heap.size + 1 = gg := by omega
                clear hcl
                go_wp2_with fail
                refine (nums_any _ 1 uc [x] _ HRR.out rfl (by omega)).mono ?_
                rintro e w5 ⟨v5, rfl, hl5, hb5⟩
                obtain ⟨lA, ln, lc, lB, lm, ld, rfl⟩ := lit_form hl5
                have h25 := blk_below HT2t.out hb5 (blk_lt HT2t.out)
                have h35 := blk_below HT3t.out hb5 hB3t
                have hm5 := moves_below HMt.out hb5
                have c5 := cell_below hb5 hc0
                have s2 := blk_cell h35 2
                have s3 := blk_cell h35 3
                have sf2 := blk_frozen h35 2
                have sf3 := blk_frozen h35 3
                have H25 := Lib.hid h25
                have H35 := Lib.hid h35
                have HM5 := Lib.hid hm5
                clear h25 h35 hm5 hl5 hb5 hc0
                go_wp2_with fail
                have hm6 := moves_old (moves_old HM5.out (Nat.le_succ _) hgl 2 (.slice lA ln lc)) (Nat.le_succ _) hgl 3 (.slice lB lm ld)
                have h26 := blk_far (p := ⟨w.heap.size + 1, 3, none⟩) (blk_far (p := ⟨w.heap.size + 1, 2, none⟩) H25.out (by simp) (.slice lA ln lc)) (by simp) (.slice lB lm ld)
                have h36 := blk_set (blk_set H35.out 2 (.slice lA ln lc)) 3 (.slice lB lm ld)
                generalize (w5.setCell ⟨w.heap.size + 1, 2, none⟩ (.slice lA ln lc)).setCell ⟨w.heap.size + 1, 3, none⟩ (.slice lB lm ld) = w6 at hm6 h26 h36 ⊢
                have hsz6 := blk_lt h36
                refine (atom_any x w6).mono ?_
                rintro e w7 ⟨v7, rfl, hl7, hb7⟩
                obtain ⟨XA, xn, xc, XB, xm, xd, rfl⟩ := lit_form hl7
                have H2X := Lib.hid (blk_below h26 hb7 (blk_lt h26))
                have H3X := Lib.hid (blk_below h36 hb7 hsz6)
                have HMX := Lib.hid (moves_below hm6 hb7)
                have hlx : LitAt (w6.heap.size ≤ ·) w7 (.agg #[.slice XA xn xc, .slice XB xm xd]) (Kx.litNums [x]) := hl7
                have HLX := Lib.hid hlx
                have HSX := Lib.hid (show w.heap.size + 1 < w6.heap.size from hsz6)
                clear hm6 h26 h36 hl7 hb7 hlx hsz6 s2 s3 sf2 sf3 c5
                have p0 := blk_cell H3X.out 0
                have p1 := blk_cell H3X.out 1
                have p2 := blk_cell H3X.out 2
                have p3 := blk_cell H3X.out 3
                have p4 := blk_cell H3X.out 4
                have pf2 := blk_frozen H3X.out 2
                have pf3 := blk_frozen H3X.out 3
                have r0 := blk_cell H2X.out 0
                have r1 := blk_cell H2X.out 1
                have r2 := blk_cell H2X.out 2
                have r3 := blk_cell H2X.out 3
                have r4 := blk_cell H2X.out 4
                have rf0 := blk_frozen H2X.out 0
                have rf1 := blk_frozen H2X.out 1
                have rf2 := blk_frozen H2X.out 2
                have rf3 := blk_frozen H2X.out 3
                have rf4 := blk_frozen H2X.out 4
                go_wp2
                have h2z := blk_far (p := ⟨w.heap.size + 1, 3, none⟩) (blk_far (p := ⟨w.heap.size + 1, 2, none⟩) H2X.out (by simp) (.slice XA xn xc)) (by simp) (.slice XB xm xd)
                obtain ⟨q0, q1, q2, q3, q4⟩ := five_cells h2z (.int .i64 1) (.string ⟨#[]⟩) (.slice XA xn xc) (.slice XB xm xd) (.int .i64 (i : Int))
                unfold fiveSet at q0 q1 q2 q3 q4
                refine bodyPost_ret (v := .agg #[.int .i64 1, .string ⟨#[]⟩, .slice XA xn xc, .slice XB xm xd, .int .i64 (i : Int)]) (by simp [results, Try.results23, go_sem, q0, q1, q2, q3, q4]) rfl ?_
                have hmz := five_moves (moves_old (moves_old HMX.out (Nat.le_succ _) hgl 2 (.slice XA xn xc)) (Nat.le_succ _) hgl 3 (.slice XB xm xd)) (Nat.le_refl _) hgl (.int .i64 1) (.string ⟨#[]⟩) (.slice XA xn xc) (.slice XB xm xd) (.int .i64 (i : Int))
                have hlz := lit_five (B := w.heap.size) (a0 := .int .i64 1) (a1 := .string ⟨#[]⟩) (a2 := .slice XA xn xc) (a3 := .slice XB xm xd) (a4 := .int .i64 (i : Int)) (lit_far (p := ⟨w.heap.size + 1, 3, none⟩) (u := .slice XB xm xd) (lit_far (p := ⟨w.heap.size + 1, 2, none⟩) (u := .slice XA xn xc) HLX.out HSX.out) HSX.out) (Nat.lt_of_succ_lt HSX.out)
                exact ⟨_, _, rfl, hlz, hmz⟩
              · have hne : ((acc.length : Int) == 1) = false := beq_eq_false_iff_ne.2 (by omega)
                have hln : Kx.litNums acc = ⟨[(acc.length : Int)], acc.map fun x => (0, x)⟩ := by unfold Kx.litNums; rw [if_neg h1]
                go_wp2_with fail
                refine (nums_any _ acc.length uc acc _ HRR.out rfl (by omega)).mono ?_
                rintro e w5 ⟨v5, rfl, hl5, hb5⟩
                obtain ⟨XA, xn, xc, XB, xm, xd, rfl⟩ := lit_form hl5
                have H2X := Lib.hid (blk_below HT2t.out hb5 (blk_lt HT2t.out))
                have H3X := Lib.hid (blk_below HT3t.out hb5 hB3t)
                have HMX := Lib.hid (moves_below HMt.out hb5)
                rw [← hln] at hl5
                have HLX := Lib.hid hl5
                have HSX := Lib.hid hB3t
                clear hl5 hb5 hln
                have p0 := blk_cell H3X.out 0
                have p1 := blk_cell H3X.out 1
                have p2 := blk_cell H3X.out 2
                have p3 := blk_cell H3X.out 3
                have p4 := blk_cell H3X.out 4
                have pf2 := blk_frozen H3X.out 2
                have pf3 := blk_frozen H3X.out 3
                have r0 := blk_cell H2X.out 0
                have r1 := blk_cell H2X.out 1
                have r2 := blk_cell H2X.out 2
                have r3 := blk_cell H2X.out 3
                have r4 := blk_cell H2X.out 4
                have rf0 := blk_frozen H2X.out 0
                have rf1 := blk_frozen H2X.out 1
                have rf2 := blk_frozen H2X.out 2
                have rf3 := blk_frozen H2X.out 3
                have rf4 := blk_frozen H2X.out 4
                go_wp2
                have h2z := blk_far (p := ⟨w.heap.size + 1, 3, none⟩) (blk_far (p := ⟨w.heap.size + 1, 2, none⟩) H2X.out (by simp) (.slice XA xn xc)) (by simp) (.slice XB xm xd)
                obtain ⟨q0, q1, q2, q3, q4⟩ := five_cells h2z (.int .i64 1) (.string ⟨#[]⟩) (.slice XA xn xc) (.slice XB xm xd) (.int .i64 (i : Int))
                unfold fiveSet at q0 q1 q2 q3 q4
                refine bodyPost_ret (v := .agg #[.int .i64 1, .string ⟨#[]⟩, .slice XA xn xc, .slice XB xm xd, .int .i64 (i : Int)]) (by simp [results, Try.results23, go_sem, q0, q1, q2, q3, q4]) rfl ?_
                have hmz := five_moves (moves_old (moves_old HMX.out (Nat.le_succ _) hgl 2 (.slice XA xn xc)) (Nat.le_succ _) hgl 3 (.slice XB xm xd)) (Nat.le_refl _) hgl (.int .i64 1) (.string ⟨#[]⟩) (.slice XA xn xc) (.slice XB xm xd) (.int .i64 (i : Int))
                have hlz := lit_five (B := w.heap.size) (a0 := .int .i64 1) (a1 := .string ⟨#[]⟩) (a2 := .slice XA xn xc) (a3 := .slice XB xm xd) (a4 := .int .i64 (i : Int)) (lit_far (p := ⟨w.heap.size + 1, 3, none⟩) (u := .slice XB xm xd) (lit_far (p := ⟨w.heap.size + 1, 2, none⟩) (u := .slice XA xn xc) HLX.out HSX.out) HSX.out) (Nat.lt_of_succ_lt HSX.out)
                exact ⟨_, _, rfl, hlz, hmz⟩
            · have hblt := Kx.begins_lt hbeg
              rw [hnl] at hblt
              have hst2 := Kx.num_step hbeg
              have hRn : R = if (Kx.numAt (nb s) (J + q)).2.2 then contAt G (nb s) (Kx.numAt (nb s) (J + q)).2.1 (acc ++ [(Kx.numAt (nb s) (J + q)).1]) else .bad (J + q) := by
                rw [← HCT2.out, if_neg (by rw [hbeg]; simp [hq0]), nums_cont]
              have HRN := Lib.hid hRn
              have hm7 := moves_drewN HM6.out n7
              have h27 : (w6.drewN n7).heap[w.heap.size]? = _ := H26.out
              have h37 : (w6.drewN n7).heap[w.heap.size + 1]? = _ := H36.out
              have ho7 := own_below HO6.out (below_drewN (Below.refl _ w6) n7)
              generalize w6.drewN n7 = w7 at hm7 h27 h37 ho7 ⊢
              have HM7 := Lib.hid hm7
              have H27 := Lib.hid h27
              have H37 := Lib.hid h37
              have HO7 := Lib.hid ho7
              clear hm7 h27 h37 ho7 HM6 H26 H36 HO6 i1 if1 hbeg hRn
              go_wp2_with fail
              refine (one_num g s v (J + q) fp w7 HM7.out.2 hblt hs).mono ?_
              rintro e w8 ⟨x8, rfl, hx8⟩
              generalize hr8 : Kx.numAt (nb s) (J + q) = r8 at *
              obtain ⟨y8, j8, ok8⟩ := r8
              dsimp only at hx8 hst2 HRN
              have hb8 : w7.grownBy w8 (some g) := by
                cases ok8
                · exact hx8.1
                · exact hx8.2.1
              have hm8 : ∃ er fq, Moves g s v j8 er fq w w8 ∧ NumsRel R s fp G j8 er fq (acc ++ [x8]) := by
                cases ok8
                · exact ⟨2, _, moves_step HM7.out hx8, .inr ⟨rfl, J + q, rfl, by rw [HRN.out]; rfl⟩⟩
                · obtain ⟨rfl, hx8⟩ := hx8
                  exact ⟨0, _, moves_step HM7.out hx8, .inl ⟨rfl, rfl, by omega, by omega, by rw [HRN.out]; rfl⟩⟩
              obtain ⟨er8, fq8, hm8, hrel8⟩ := hm8
              have H28 := Lib.hid (blk_grown H27.out hb8 (by intro e; cases e; omega))
              have H38 := Lib.hid (blk_grown H37.out hb8 (by intro e; cases e; omega))
              have HO8 := Lib.hid (own_grown HO7.out hb8 (by omega))
              have HM8 := Lib.hid hm8
              have HREL8 := Lib.hid hrel8
              have hsz8 : w.heap.size + 2 ≤ w8.heap.size := by have := blk_lt H38.out; omega
              clear hx8 hb8 hm8 hrel8 HM7 H27 H37 HO7 hr8 HRN
              go_wp2_with
                (at_builtin; refine wpList_append_lies _ rfl (.tmp 49) (.tmp 52) 38 rfl (w.heap.size + 2) 2 i2 _ 1 8 Try.underlying38 hi2 hz2 hs2 hb2 rfl (by omega) (.slice uA acc.length uc) acc.length (nums .i64 acc) rfl (HO8.out.alloc _)
                    ⟨w8.heap.size, 0, none⟩ 1 1 (nums .i64 [x8]) rfl rfl (World.news_of_block (cs := (nums .i64 [x8]).toArray) (t := 2) (fr := (0, 0)) (heap_alloc_new w8 _)) nums_one (by omega) (by unfold maxLen; omega) (by omega) (by simp; omega) (w8.heap.size + 1) (by simp) ?_; intro gg cap w9 hown9 hgrow hat9 hlt9; have HM9 := Lib.hid (moves_own (moves_below HM8.out ((Below.refl w8.heap.size w8).alloc (Nat.le_refl _) (Obj.cells (nums .i64 [x8]).toArray 2))) hgrow hgl (fun b hb => by have := (HO8.out.lt b hb).1; omega)); have H29 := Lib.hid (blk_grown (blk_alloc H28.out (Obj.cells (nums .i64 [x8]).toArray 2)) hgrow (own_ne HO8.out (by omega))); have H39 := Lib.hid (blk_grown (blk_alloc H38.out (Obj.cells (nums .i64 [x8]).toArray 2)) hgrow (own_ne HO8.out (by omega))); have HO9 := Lib.hid hown9; clear hown9 hgrow hat9)
              go_roundg G
              case measure => exact Nat.lt_succ_self G
              case rel => exact ⟨acc ++ [x8], j8, er8, fq8, by rw [List.length_append, List.length_singleton]; omega, by rw [List.length_append, List.length_singleton]; omega, by omega, HREL8.out, HM9.out, H29.out, H39.out, by rw [nums_append, List.length_append]; exact HO9.out⟩
    · have HMt := HM
      have HT2t := HT2
      have HT3t := HT3
      have HOWNt := HOWN
      subst hc
      clear HM HT2 HT3 HOWN e1
      obtain ⟨rA, rc, hrv, _, _, hrl, _, hrr⟩ := own_row HOWNt.out
      cases hrv
      have HRR := Lib.hid hrr
      have hB3t := blk_lt HT3t.out
      clear hrl hrr
      by_cases h1 : acc.length = 1
      · obtain ⟨x, rfl⟩ := List.length_eq_one_iff.1 h1
        obtain ⟨gg, off, hA, hcl⟩ := HRR.out.2 (by simp)
        cases hA
        have hc0 : wr.cell? ⟨gg, off, none⟩ = some (.int .i64 x) := hcl 0 (by simp)
        have hgg := (HOWNt.out.lt gg rfl).1
        have hgne : ¬ gg = w.heap.size + 1 := by omega
        have hgne' : ¬ w.heap.size + 1 = gg := by omega
        clear hcl
        go_wp2_with fail
        refine (nums_any _ 1 uc [x] _ HRR.out rfl (by omega)).mono ?_
        rintro e w5 ⟨v5, rfl, hl5, hb5⟩
        obtain ⟨lA, ln, lc, lB, lm, ld, rfl⟩ := lit_form hl5
        have h25 := blk_below HT2t.out hb5 (blk_lt HT2t.out)
        have h35 := blk_below HT3t.out hb5 hB3t
        have hm5 := moves_below HMt.out hb5
        have c5 := cell_below hb5 hc0
        have s2 := blk_cell h35 2
        have s3 := blk_cell h35 3
        have sf2 := blk_frozen h35 2
        have sf3 := blk_frozen h35 3
        have H25 := Lib.hid h25
        have H35 := Lib.hid h35
        have HM5 := Lib.hid hm5
        clear h25 h35 hm5 hl5 hb5 hc0
        go_wp2_with fail
        have hm6 := moves_old (moves_old HM5.out (Nat.le_succ _) hgl 2 (.slice lA ln lc)) (Nat.le_succ _) hgl 3 (.slice lB lm ld)
        have h26 := blk_far (p := ⟨w.heap.size + 1, 3, none⟩) (blk_far (p := ⟨w.heap.size + 1, 2, none⟩) H25.out (by simp) (.slice lA ln lc)) (by simp) (.slice lB lm ld)
        have h36 := blk_set (blk_set H35.out 2 (.slice lA ln lc)) 3 (.slice lB lm ld)
        generalize (w5.setCell ⟨w.heap.size + 1, 2, none⟩ (.slice lA ln lc)).setCell ⟨w.heap.size + 1, 3, none⟩ (.slice lB lm ld) = w6 at hm6 h26 h36 ⊢
        have hsz6 := blk_lt h36
        refine (atom_any x w6).mono ?_
        rintro e w7 ⟨v7, rfl, hl7, hb7⟩
        obtain ⟨XA, xn, xc, XB, xm, xd, rfl⟩ := lit_form hl7
        have H2X := Lib.hid (blk_below h26 hb7 (blk_lt h26))
        have H3X := Lib.hid (blk_below h36 hb7 hsz6)
        have HMX := Lib.hid (moves_below hm6 hb7)
        have hlx : LitAt (w6.heap.size ≤ ·) w7 (.agg #[.slice XA xn xc, .slice XB xm xd]) (Kx.litNums [x]) := hl7
        have HLX := Lib.hid hlx
        have HSX := Lib.hid (show w.heap.size + 1 < w6.heap.size from hsz6)
        clear hm6 h26 h36 hl7 hb7 hlx hsz6 s2 s3 sf2 sf3 c5
        have p0 := blk_cell H3X.out 0
        have p1 := blk_cell H3X.out 1
        have p2 := blk_cell H3X.out 2
        have p3 := blk_cell H3X.out 3
        have p4 := blk_cell H3X.out 4
        have pf2 := blk_frozen H3X.out 2
        have pf3 := blk_frozen H3X.out 3
        have r0 := blk_cell H2X.out 0
        have r1 := blk_cell H2X.out 1
        have r2 := blk_cell H2X.out 2
        have r3 := blk_cell H2X.out 3
        have r4 := blk_cell H2X.out 4
        have rf0 := blk_frozen H2X.out 0
        have rf1 := blk_frozen H2X.out 1
        have rf2 := blk_frozen H2X.out 2
        have rf3 := blk_frozen H2X.out 3
        have rf4 := blk_frozen H2X.out 4
        go_wp2
        have h2z := blk_far (p := ⟨w.heap.size + 1, 3, none⟩) (blk_far (p := ⟨w.heap.size + 1, 2, none⟩) H2X.out (by simp) (.slice XA xn xc)) (by simp) (.slice XB xm xd)
        obtain ⟨q0, q1, q2, q3, q4⟩ := five_cells h2z (.int .i64 1) (.string ⟨#[]⟩) (.slice XA xn xc) (.slice XB xm xd) (.int .i64 (i : Int))
        unfold fiveSet at q0 q1 q2 q3 q4
        refine bodyPost_ret (v := .agg #[.int .i64 1, .string ⟨#[]⟩, .slice XA xn xc, .slice XB xm xd, .int .i64 (i : Int)]) (by simp [results, Try.results23, go_sem, q0, q1, q2, q3, q4]) rfl ?_
        have hmz := five_moves (moves_old (moves_old HMX.out (Nat.le_succ _) hgl 2 (.slice XA xn xc)) (Nat.le_succ _) hgl 3 (.slice XB xm xd)) (Nat.le_refl _) hgl (.int .i64 1) (.string ⟨#[]⟩) (.slice XA xn xc) (.slice XB xm xd) (.int .i64 (i : Int))
        have hlz := lit_five (B := w.heap.size) (a0 := .int .i64 1) (a1 := .string ⟨#[]⟩) (a2 := .slice XA xn xc) (a3 := .slice XB xm xd) (a4 := .int .i64 (i : Int)) (lit_far (p := ⟨w.heap.size + 1, 3, none⟩) (u := .slice XB xm xd) (lit_far (p := ⟨w.heap.size + 1, 2, none⟩) (u := .slice XA xn xc) HLX.out HSX.out) HSX.out) (Nat.lt_of_succ_lt HSX.out)
        exact ⟨_, _, _, _, _, _, _, _, _, rfl, _, hmz⟩
      · have hne : ((acc.length : Int) == 1) = false := beq_eq_false_iff_ne.2 (by omega)
        have hln : Kx.litNums acc = ⟨[(acc.length : Int)], acc.map fun x => (0, x)⟩ := by unfold Kx.litNums; rw [if_neg h1]
        go_wp2_with fail
        refine (nums_any _ acc.length uc acc _ HRR.out rfl (by omega)).mono ?_
        rintro e w5 ⟨v5, rfl, hl5, hb5⟩
        obtain ⟨XA, xn, xc, XB, xm, xd, rfl⟩ := lit_form hl5
        have H2X := Lib.hid (blk_below HT2t.out hb5 (blk_lt HT2t.out))
        have H3X := Lib.hid (blk_below HT3t.out hb5 hB3t)
        have HMX := Lib.hid (moves_below HMt.out hb5)
        rw [← hln] at hl5
        have HLX := Lib.hid hl5
        have HSX := Lib.hid hB3t
        clear hl5 hb5 hln
        have p0 := blk_cell H3X.out 0
        have p1 := blk_cell H3X.out 1
        have p2 := blk_cell H3X.out 2
        have p3 := blk_cell H3X.out 3
        have p4 := blk_cell H3X.out 4
        have pf2 := blk_frozen H3X.out 2
        have pf3 := blk_frozen H3X.out 3
        have r0 := blk_cell H2X.out 0
        have r1 := blk_cell H2X.out 1
        have r2 := blk_cell H2X.out 2
        have r3 := blk_cell H2X.out 3
        have r4 := blk_cell H2X.out 4
        have rf0 := blk_frozen H2X.out 0
        have rf1 := blk_frozen H2X.out 1
        have rf2 := blk_frozen H2X.out 2
        have rf3 := blk_frozen H2X.out 3
        have rf4 := blk_frozen H2X.out 4
        go_wp2
        have h2z := blk_far (p := ⟨w.heap.size + 1, 3, none⟩) (blk_far (p := ⟨w.heap.size + 1, 2, none⟩) H2X.out (by simp) (.slice XA xn xc)) (by simp) (.slice XB xm xd)
        obtain ⟨q0, q1, q2, q3, q4⟩ := five_cells h2z (.int .i64 1) (.string ⟨#[]⟩) (.slice XA xn xc) (.slice XB xm xd) (.int .i64 (i : Int))
        unfold fiveSet at q0 q1 q2 q3 q4
        refine bodyPost_ret (v := .agg #[.int .i64 1, .string ⟨#[]⟩, .slice XA xn xc, .slice XB xm xd, .int .i64 (i : Int)]) (by simp [results, Try.results23, go_sem, q0, q1, q2, q3, q4]) rfl ?_
        have hmz := five_moves (moves_old (moves_old HMX.out (Nat.le_succ _) hgl 2 (.slice XA xn xc)) (Nat.le_succ _) hgl 3 (.slice XB xm xd)) (Nat.le_refl _) hgl (.int .i64 1) (.string ⟨#[]⟩) (.slice XA xn xc) (.slice XB xm xd) (.int .i64 (i : Int))
        have hlz := lit_five (B := w.heap.size) (a0 := .int .i64 1) (a1 := .string ⟨#[]⟩) (a2 := .slice XA xn xc) (a3 := .slice XB xm xd) (a4 := .int .i64 (i : Int)) (lit_far (p := ⟨w.heap.size + 1, 3, none⟩) (u := .slice XB xm xd) (lit_far (p := ⟨w.heap.size + 1, 2, none⟩) (u := .slice XA xn xc) HLX.out HSX.out) HSX.out) (Nat.lt_of_succ_lt HSX.out)
        exact ⟨_, _, _, _, _, _, _, _, _, rfl, _, hmz⟩
end Go.Proofs.Ytiboikbccmfedaa
