/- Contract of the lexer's word. Conditions: the lexer's block reads in memory; its place lies within the text; the library's variable holds an int. -/
import Derived.Test.YtiboikbccmfedaaAk
namespace Go.Proofs.Ytiboikbccmfedaa
open Go.RowKit

/-- a word that is always the same, as a word -/
def fixedWord (i : Nat) : Option (List Int × Int) → Kx.Word
  | none => .bad 2 i
  | some w => .good ⟨w.2, w.1, ⟨[], []⟩, i⟩ (i + w.1.length)
theorem glob_drewN {w : World} (h : Glob w) (n : Nat) : Glob (w.drewN n) := h
set_option maxRecDepth 100000 in
set_option maxHeartbeats 8000000 in
theorem word_any (g : Nat) (s : ByteArray) (v : Value) (i : Nat) (fp : Int) (w : World) (hg : w.heap[g]? = some (acell s v i 0 fp)) (hi : i < s.size) (hs : s.size ≤ 100000) (hgb : Glob w) :
    Calls Try.prog 14 #[.pointer (some ⟨g, 0, none⟩)] w (WordIs (Kx.wordAt (nb s) i) g s v fp w) := by
  have hgl := blk_lt hg
  have HG := Lib.hid hg
  have hnl := nb_length s
  obtain ⟨R, hR⟩ : ∃ R, Kx.wordAt (nb s) i = R := ⟨_, rfl⟩
  rw [hR]
  have HR := Lib.hid hR
  have hsub := extract_end s i (by omega)
  obtain ⟨sub, hsb⟩ : ∃ sub, strOfNums ((nb s).drop i) = sub := ⟨_, rfl⟩
  rw [hsb] at hsub
  have hsz : sub.size = s.size - i := by rw [← hsb, strOfNums_size, List.length_drop, hnl]
  have hnbs : nb sub = (nb s).drop i := by rw [← hsb]; exact nb_str _ (fun x hx => nb_bytes s x (List.mem_of_mem_drop hx))
  have hcv := fun W => (conv_all sub (by omega) W).1
  obtain ⟨x, kk, hon⟩ : ∃ x k, Spec.one ((nb s).drop i) = (x, k) := ⟨_, _, rfl⟩
  have HON := Lib.hid hon
  have hm1 := moves_alloc (moves_refl HG.out) (.cells #[.int .i64 0, .string ⟨#[]⟩, .slice none 0 0, .slice none 0 0, .int .i64 0] 34)
  have h21 := blk_new w (.cells #[.int .i64 0, .string ⟨#[]⟩, .slice none 0 0, .slice none 0 0, .int .i64 0] 34)
  have hgb1 := hgb.below ((Below.refl _ _).alloc (Nat.le_refl _) (.cells #[.int .i64 0, .string ⟨#[]⟩, .slice none 0 0, .slice none 0 0, .int .i64 0] 34))
  obtain ⟨wr, hwr⟩ : ∃ wr, w.alloc (.cells #[.int .i64 0, .string ⟨#[]⟩, .slice none 0 0, .slice none 0 0, .int .i64 0] 34) = wr := ⟨_, rfl⟩
  rw [hwr] at hm1 h21 hgb1
  have HM1 := Lib.hid hm1
  have H21 := Lib.hid h21
  have HGB1 := Lib.hid hgb1
  have OT := Lib.hid (one_text s i sub wr x kk hs hnbs hon)
  clear hg hR hgb hm1 h21 hgb1 hon hsz hsb hnbs
  go_enter Try.func14, Try.ntmps14
  have d0 := blk_cell HM1.out.2 0
  have d1 := blk_cell HM1.out.2 1
  go_wp2
  clear hwr
  go_region_with (go_at_call 19; refine (OT.out _).mono ?_; rintro e w2 ⟨rfl, hb2⟩)
  all_goals
    have HM2 := Lib.hid (moves_below HM1.out hb2)
    have H22 := Lib.hid (blk_below H21.out hb2 (blk_lt H21.out))
    have HGB2 := Lib.hid (HGB1.out.below hb2)
    have e0 := blk_cell HM2.out.2 0
    have e1 := blk_cell HM2.out.2 1
    clear hb2 d0 d1 OT hcv
    by_cases hk : kk = 0
    · subst hk
      have hRn : R = .bad 3 i := by rw [← HR.out]; unfold Kx.wordAt; rw [HON.out, if_pos rfl]
      clear HR
      subst hRn
      go_wp2_with fail
      refine (fail_any g s v i fp 3 (i : Int) w2 HM2.out.2).mono ?_
      rintro e w3 ⟨rfl, hm3⟩
      have HM3 := Lib.hid (moves_step HM2.out hm3)
      have H23 := Lib.hid (blk_grown H22.out hm3.1 (by intro e; cases e; omega))
      clear hm3 e0 e1
      have x0 := blk_cell H23.out 0
      have x1 := blk_cell H23.out 1
      have x2 := blk_cell H23.out 2
      have x3 := blk_cell H23.out 3
      have x4 := blk_cell H23.out 4
      have xf0 := blk_frozen H23.out 0
      have xf1 := blk_frozen H23.out 1
      have xf2 := blk_frozen H23.out 2
      have xf3 := blk_frozen H23.out 3
      have xf4 := blk_frozen H23.out 4
      go_wp2
      obtain ⟨q0, q1, q2, q3, q4⟩ := five_cells H23.out (.int .i64 0) (.string ⟨#[]⟩) (.slice none 0 0) (.slice none 0 0) (.int .i64 0)
      unfold fiveSet at q0 q1 q2 q3 q4
      refine bodyPost_ret (v := .agg #[(.int .i64 0), (.string ⟨#[]⟩), (.slice none 0 0), (.slice none 0 0), (.int .i64 0)]) (by simp [results, Try.results14, go_sem, q0, q1, q2, q3, q4]) rfl ?_
      exact ⟨_, _, none, 0, 0, none, 0, 0, _, rfl, i, five_moves HM3.out (Nat.le_refl _) hgl _ _ _ _ _⟩
    · have hk' : ¬ (Spec.one ((nb s).drop i)).2 = 0 := by rw [HON.out]; exact hk
      have HK := Lib.hid hk'
      clear hk'
      go_wp2_with fail
      refine (byte_zero g s v i 0 fp w2 HM2.out.2 (by omega)).mono ?_
      rintro e w3 ⟨rfl, n3, rfl⟩
      have HM3 := Lib.hid (moves_drewN HM2.out n3)
      have H23 := Lib.hid (show (w2.drewN n3).heap[w.heap.size]? = _ from H22.out)
      have HGB3 := Lib.hid (glob_drewN HGB2.out n3)
      obtain ⟨W3, hW3⟩ : ∃ W3, w2.drewN n3 = W3 := ⟨_, rfl⟩
      rw [hW3] at HM3 H23 HGB3 ⊢
      clear hW3 e0 e1
      obtain ⟨c, hc⟩ : ∃ c, Kx.gt (nb s) i = c := ⟨_, rfl⟩
      rw [hc]
      have HC := Lib.hid hc
      clear hc
      obtain ⟨b, hb⟩ : ∃ b, Kx.begins (nb s) i = b := ⟨_, rfl⟩
      have HB := Lib.hid hb
      have NT := Lib.hid (number_any g s v i 0 fp W3 HM3.out.2 (by omega))
      rw [hb] at NT
      clear hb
      go_wp2_with fail
      refine NT.out.mono ?_
      rintro e w4 ⟨rfl, n4, rfl⟩
      have HM4 := Lib.hid (moves_drewN HM3.out n4)
      have H24 := Lib.hid (show (W3.drewN n4).heap[w.heap.size]? = _ from H23.out)
      have HGB4 := Lib.hid (glob_drewN HGB3.out n4)
      obtain ⟨W4, hW4⟩ : ∃ W4, W3.drewN n4 = W4 := ⟨_, rfl⟩
      rw [hW4] at HM4 H24 HGB4 ⊢
      clear hW4 NT
      cases b
      · by_cases h39 : c = 39
        · subst h39
          go_wp2_with fail
          refine (text_lex g s v i fp W4 HM4.out.2 hi hs).mono ?_
          intro e w5 hw5
          have hRn : R = textWord i (Kx.textAt ((nb s).length + 1) (nb s) i (i + 1) []) := by rw [← HR.out]; unfold Kx.wordAt; rw [if_neg HK.out, if_neg (by rw [HB.out]; decide), if_pos HC.out]; cases Kx.textAt ((nb s).length + 1) (nb s) i (i + 1) [] <;> rfl
          rw [← hRn] at hw5
          clear hRn HR
          cases R with
          | bad er j =>
            obtain ⟨k, x', A, n, c', B, m, d, p, rfl, q, hm5⟩ := hw5
            have HM5 := Lib.hid (moves_step HM4.out hm5)
            have H25 := Lib.hid (blk_grown H24.out hm5.1 (by intro e; cases e; omega))
            clear hm5
            have x0 := blk_cell H25.out 0
            have x1 := blk_cell H25.out 1
            have x2 := blk_cell H25.out 2
            have x3 := blk_cell H25.out 3
            have x4 := blk_cell H25.out 4
            have xf0 := blk_frozen H25.out 0
            have xf1 := blk_frozen H25.out 1
            have xf2 := blk_frozen H25.out 2
            have xf3 := blk_frozen H25.out 3
            have xf4 := blk_frozen H25.out 4
            go_wp2
            obtain ⟨q0, q1, q2, q3, q4⟩ := five_cells H25.out (.int .i64 k) (.string x') (.slice A n c') (.slice B m d) (.int .i64 p)
            unfold fiveSet at q0 q1 q2 q3 q4
            refine bodyPost_ret (v := .agg #[(.int .i64 k), (.string x'), (.slice A n c'), (.slice B m d), (.int .i64 p)]) (by simp [results, Try.results14, go_sem, q0, q1, q2, q3, q4]) rfl ?_
            exact ⟨k, x', A, n, c', B, m, d, p, rfl, q, five_moves HM5.out (Nat.le_refl _) hgl _ _ _ _ _⟩
          | good t j =>
            obtain ⟨a0, a1, rfl, hl, hm5⟩ := hw5
            obtain ⟨A, n, c', B, m, d, hv⟩ := lit_form hl
            obtain ⟨rfl, rfl⟩ : a0 = .slice A n c' ∧ a1 = .slice B m d := by simpa using hv
            have HM5 := Lib.hid (moves_step HM4.out hm5)
            have H25 := Lib.hid (blk_grown H24.out hm5.1 (by intro e; cases e; omega))
            have HL := Lib.hid hl
            have hB4 := blk_lt H24.out
            clear hm5 hv hl
            unfold tokVal
            have x0 := blk_cell H25.out 0
            have x1 := blk_cell H25.out 1
            have x2 := blk_cell H25.out 2
            have x3 := blk_cell H25.out 3
            have x4 := blk_cell H25.out 4
            have xf0 := blk_frozen H25.out 0
            have xf1 := blk_frozen H25.out 1
            have xf2 := blk_frozen H25.out 2
            have xf3 := blk_frozen H25.out 3
            have xf4 := blk_frozen H25.out 4
            go_wp2
            obtain ⟨q0, q1, q2, q3, q4⟩ := five_cells H25.out (.int .i64 t.kind) (.string (strOfNums t.text)) (.slice A n c') (.slice B m d) (.int .i64 (t.at_ : Int))
            unfold fiveSet at q0 q1 q2 q3 q4
            refine bodyPost_ret (v := .agg #[(.int .i64 t.kind), (.string (strOfNums t.text)), (.slice A n c'), (.slice B m d), (.int .i64 (t.at_ : Int))]) (by simp [results, Try.results14, go_sem, q0, q1, q2, q3, q4]) rfl ?_
            exact ⟨_, _, rfl, lit_five HL.out hB4, five_moves HM5.out (Nat.le_refl _) hgl _ _ _ _ _⟩
        · have hl39 : decide (c = 39) = false := decide_eq_false h39
          obtain ⟨lo, hlo⟩ : ∃ lo, Kx.low c = lo := ⟨_, rfl⟩
          have LO := Lib.hid (low_is hlo)
          have HLO := Lib.hid hlo
          clear hlo
          go_wp2_with fail
          refine (LO.out _).mono ?_
          rintro e w9 ⟨rfl, rfl⟩
          cases lo
          ·
            have hlw : Kx.low (Kx.gt (nb s) i) = false := by rw [HC.out]; exact HLO.out
            obtain ⟨Fx, hFx⟩ : ∃ Fx, Kx.fixedAt (nb s) i = Fx := ⟨_, rfl⟩
            have hRn : R = fixedWord i Fx := by
              rw [← HR.out]
              unfold Kx.wordAt
              rw [if_neg HK.out, if_neg (by rw [HB.out]; decide), if_neg (by rw [HC.out]; exact h39), if_neg (by rw [hlw]; decide), hFx]
              cases Fx <;> rfl
            clear hlw HR
            have FX := Lib.hid (fixed_any g s v i fp w9 HM4.out.2 hi hs HGB4.out HK.out)
            rw [hFx] at FX
            have HFX := Lib.hid hFx
            clear hFx
            cases Fx with
            | none =>
              dsimp only [fixedWord] at hRn
              subst hRn
              go_wp2_with fail
              refine FX.out.mono ?_
              intro e w5 hfx
              obtain ⟨he, hm5⟩ := hfx
              dsimp only at he
              subst he
              have HM5 := Lib.hid (moves_step HM4.out hm5)
              have H25 := Lib.hid (blk_grown H24.out hm5.1 (by intro e; cases e; omega))
              clear hm5 FX
              have z1 := blk_cell HM5.out.2 1
              have hz6 := blk_lt HM5.out.2
              go_wp2_with fail
              clear z1
              refine (fail_any g s v i fp 2 (i : Int) (w5.alloc (.cells #[.int .i64 0, .string ⟨#[]⟩, .slice none 0 0, .slice none 0 0, .int .i64 0] 34)) (blk_alloc HM5.out.2 _)).mono ?_
              rintro e W6 ⟨rfl, hm6⟩
              have hB6 := blk_lt H25.out
              have hg6 := blk_lt HM5.out.2
              have HM6 := Lib.hid (moves_step (moves_alloc HM5.out (.cells #[.int .i64 0, .string ⟨#[]⟩, .slice none 0 0, .slice none 0 0, .int .i64 0] 34)) hm6)
              have H26 := Lib.hid (blk_grown (blk_alloc H25.out (.cells #[.int .i64 0, .string ⟨#[]⟩, .slice none 0 0, .slice none 0 0, .int .i64 0] 34)) hm6.1 (by intro e; cases e; omega))
              have H36 := Lib.hid (blk_grown (blk_new w5 (.cells #[.int .i64 0, .string ⟨#[]⟩, .slice none 0 0, .slice none 0 0, .int .i64 0] 34)) hm6.1 (by intro e; cases e; omega))
              clear hm6
              generalize w5.heap.size = B6 at *
              obtain ⟨tx, htx⟩ : ∃ tx : ByteArray, (⟨#[]⟩ : ByteArray) = tx := ⟨_, rfl⟩
              have htz : tx.size = 0 := by rw [← htx]; rfl
              have h36 := H36.out
              rw [htx] at h36
              have H36 := Lib.hid h36
              clear h36 htx
              have hwr : IntKind.i64.wrap ((i : Int) + (tx.size : Int)) = (i : Int) + (tx.size : Int) := wraps_i64 _ (by omega) (by omega)
              have hi' : i + tx.size ≤ s.size := by omega
              clear htz
              have c1 := blk_cell HM6.out.2 1
              have cf1 := blk_frozen HM6.out.2 1
              have y0 := blk_cell H36.out 0
              have y1 := blk_cell H36.out 1
              have y2 := blk_cell H36.out 2
              have y3 := blk_cell H36.out 3
              have y4 := blk_cell H36.out 4
              go_wp2
              go_region
              all_goals
                have hm7 := moves_drew (moves_set HM6.out (i + tx.size))
                have h27 := blk_drew (blk_far (p := ⟨g, 1, none⟩) H26.out (by simp; omega) (.int .i64 ((i + tx.size : Nat) : Int)))
                have h37 := blk_drew (blk_far (p := ⟨g, 1, none⟩) H36.out (by simp; omega) (.int .i64 ((i + tx.size : Nat) : Int)))
                rw [show ((i + tx.size : Nat) : Int) = (i : Int) + (tx.size : Int) by omega] at hm7 h27 h37
                obtain ⟨W7, hW7⟩ : ∃ W7, (W6.setCell ⟨g, 1, none⟩ (.int .i64 ((i : Int) + (tx.size : Int)))).drew = W7 := ⟨_, rfl⟩
                rw [hW7] at hm7 h27 h37 ⊢
                clear hW7 c1 cf1 y0 y1 y2 y3 y4
                have HM7 := Lib.hid hm7
                have H27 := Lib.hid h27
                have y0 := blk_cell h37 0
                have y1 := blk_cell h37 1
                have y2 := blk_cell h37 2
                have y3 := blk_cell h37 3
                have y4 := blk_cell h37 4
                clear hm7 h27 h37
                have x0 := blk_cell H27.out 0
                have x1 := blk_cell H27.out 1
                have x2 := blk_cell H27.out 2
                have x3 := blk_cell H27.out 3
                have x4 := blk_cell H27.out 4
                have xf0 := blk_frozen H27.out 0
                have xf1 := blk_frozen H27.out 1
                have xf2 := blk_frozen H27.out 2
                have xf3 := blk_frozen H27.out 3
                have xf4 := blk_frozen H27.out 4
                go_wp2
                obtain ⟨q0, q1, q2, q3, q4⟩ := five_cells H27.out (.int .i64 0) (.string tx) (.slice none 0 0) (.slice none 0 0) (.int .i64 0)
                unfold fiveSet at q0 q1 q2 q3 q4
                refine bodyPost_ret (v := .agg #[(.int .i64 0), (.string tx), (.slice none 0 0), (.slice none 0 0), (.int .i64 0)]) (by simp [results, Try.results14, go_sem, q0, q1, q2, q3, q4]) rfl ?_
                exact ⟨_, _, none, 0, 0, none, 0, 0, _, rfl, i + tx.size, five_moves HM7.out (Nat.le_refl _) hgl _ _ _ _ _⟩
            | some x =>
              dsimp only [fixedWord] at hRn
              subst hRn
              go_wp2_with fail
              refine FX.out.mono ?_
              intro e w5 hfx
              obtain ⟨he, hm5⟩ := hfx
              dsimp only at he
              subst he
              have HM5 := Lib.hid (moves_step HM4.out hm5)
              have H25 := Lib.hid (blk_grown H24.out hm5.1 (by intro e; cases e; omega))
              have hfit := (Kx.fixed_stands (nb_bytes s) (by rw [hnl]; exact hi) HK.out HFX.out).2.1
              rw [hnl] at hfit
              obtain ⟨tx, htx⟩ : ∃ tx, strOfNums x.1 = tx := ⟨_, rfl⟩
              have htz : tx.size = x.1.length := by rw [← htx, strOfNums_size]
              rw [← htz] at hfit
              have HTZ := Lib.hid htz
              rw [htx]
              have HTX := Lib.hid htx
              clear hm5 FX htx htz
              go_wp2
              obtain ⟨W6, hW6⟩ : ∃ W6, w5.alloc (.cells #[.int .i64 x.2, .string tx, .slice none 0 0, .slice none 0 0, .int .i64 (i : Int)] 34) = W6 := ⟨_, rfl⟩
              have hB6 := blk_lt H25.out
              have hg6 := blk_lt HM5.out.2
              have HM6 := Lib.hid (show Moves g s v i 0 fp w W6 by rw [← hW6]; exact moves_alloc HM5.out _)
              have h26 := blk_alloc H25.out (.cells #[.int .i64 x.2, .string tx, .slice none 0 0, .slice none 0 0, .int .i64 (i : Int)] 34)
              have h36 := blk_new w5 (.cells #[.int .i64 x.2, .string tx, .slice none 0 0, .slice none 0 0, .int .i64 (i : Int)] 34)
              rw [hW6] at h26 h36 ⊢
              have H26 := Lib.hid h26
              have H36 := Lib.hid h36
              clear h26 h36 hW6
              generalize w5.heap.size = B6 at *
              have hwr : IntKind.i64.wrap ((i : Int) + (tx.size : Int)) = (i : Int) + (tx.size : Int) := wraps_i64 _ (by omega) (by omega)
              have c1 := blk_cell HM6.out.2 1
              have cf1 := blk_frozen HM6.out.2 1
              have y0 := blk_cell H36.out 0
              have y1 := blk_cell H36.out 1
              have y2 := blk_cell H36.out 2
              have y3 := blk_cell H36.out 3
              have y4 := blk_cell H36.out 4
              go_wp2
              go_region
              all_goals
                have hm7 := moves_drew (moves_set HM6.out (i + tx.size))
                have h27 := blk_drew (blk_far (p := ⟨g, 1, none⟩) H26.out (by simp; omega) (.int .i64 ((i + tx.size : Nat) : Int)))
                have h37 := blk_drew (blk_far (p := ⟨g, 1, none⟩) H36.out (by simp; omega) (.int .i64 ((i + tx.size : Nat) : Int)))
                rw [show ((i + tx.size : Nat) : Int) = (i : Int) + (tx.size : Int) by omega] at hm7 h27 h37
                obtain ⟨W7, hW7⟩ : ∃ W7, (W6.setCell ⟨g, 1, none⟩ (.int .i64 ((i : Int) + (tx.size : Int)))).drew = W7 := ⟨_, rfl⟩
                rw [hW7] at hm7 h27 h37 ⊢
                clear hW7 c1 cf1 y0 y1 y2 y3 y4
                have HM7 := Lib.hid hm7
                have H27 := Lib.hid h27
                have y0 := blk_cell h37 0
                have y1 := blk_cell h37 1
                have y2 := blk_cell h37 2
                have y3 := blk_cell h37 3
                have y4 := blk_cell h37 4
                clear hm7 h27 h37
                have x0 := blk_cell H27.out 0
                have x1 := blk_cell H27.out 1
                have x2 := blk_cell H27.out 2
                have x3 := blk_cell H27.out 3
                have x4 := blk_cell H27.out 4
                have xf0 := blk_frozen H27.out 0
                have xf1 := blk_frozen H27.out 1
                have xf2 := blk_frozen H27.out 2
                have xf3 := blk_frozen H27.out 3
                have xf4 := blk_frozen H27.out 4
                go_wp2
                obtain ⟨q0, q1, q2, q3, q4⟩ := five_cells H27.out (.int .i64 x.2) (.string tx) (.slice none 0 0) (.slice none 0 0) (.int .i64 (i : Int))
                unfold fiveSet at q0 q1 q2 q3 q4
                refine bodyPost_ret (v := .agg #[(.int .i64 x.2), (.string tx), (.slice none 0 0), (.slice none 0 0), (.int .i64 (i : Int))]) (by simp [results, Try.results14, go_sem, q0, q1, q2, q3, q4]) rfl ?_
                have h8 := five_moves HM7.out (Nat.le_refl _) hgl (.int .i64 x.2) (.string tx) (.slice none 0 0) (.slice none 0 0) (.int .i64 (i : Int))
                rw [HTZ.out] at h8
                exact ⟨.slice none 0 0, .slice none 0 0, by unfold tokVal; rw [HTX.out], lit_none _, h8⟩
          · have hlw : Kx.low (Kx.gt (nb s) i) = true := by rw [HC.out]; exact HLO.out
            have HLW := Lib.hid hlw
            clear hlw
            go_wp2_with fail
            refine (name_any g s v i fp w9 HM4.out.2 hi hs HLW.out).mono ?_
            intro e w5 hw5
            have hRn : R = (if Kx.span Kx.alnum ((nb s).drop i) ≤ 8 then .good ⟨3, ((nb s).drop i).take (Kx.span Kx.alnum ((nb s).drop i)), ⟨[], []⟩, i⟩ (i + Kx.span Kx.alnum ((nb s).drop i)) else .bad 2 i) := by rw [← HR.out]; unfold Kx.wordAt; rw [if_neg HK.out, if_neg (by rw [HB.out]; decide), if_neg (by rw [HC.out]; exact h39), if_pos HLW.out]
            rw [← hRn] at hw5
            clear hRn HR
            cases R with
            | bad er j =>
              obtain ⟨k, x', A, n, c', B, m, d, p, rfl, q, hm5⟩ := hw5
              have HM5 := Lib.hid (moves_step HM4.out hm5)
              have H25 := Lib.hid (blk_grown H24.out hm5.1 (by intro e; cases e; omega))
              clear hm5
              have x0 := blk_cell H25.out 0
              have x1 := blk_cell H25.out 1
              have x2 := blk_cell H25.out 2
              have x3 := blk_cell H25.out 3
              have x4 := blk_cell H25.out 4
              have xf0 := blk_frozen H25.out 0
              have xf1 := blk_frozen H25.out 1
              have xf2 := blk_frozen H25.out 2
              have xf3 := blk_frozen H25.out 3
              have xf4 := blk_frozen H25.out 4
              go_wp2
              obtain ⟨q0, q1, q2, q3, q4⟩ := five_cells H25.out (.int .i64 k) (.string x') (.slice A n c') (.slice B m d) (.int .i64 p)
              unfold fiveSet at q0 q1 q2 q3 q4
              refine bodyPost_ret (v := .agg #[(.int .i64 k), (.string x'), (.slice A n c'), (.slice B m d), (.int .i64 p)]) (by simp [results, Try.results14, go_sem, q0, q1, q2, q3, q4]) rfl ?_
              exact ⟨k, x', A, n, c', B, m, d, p, rfl, q, five_moves HM5.out (Nat.le_refl _) hgl _ _ _ _ _⟩
            | good t j =>
              obtain ⟨a0, a1, rfl, hl, hm5⟩ := hw5
              obtain ⟨A, n, c', B, m, d, hv⟩ := lit_form hl
              obtain ⟨rfl, rfl⟩ : a0 = .slice A n c' ∧ a1 = .slice B m d := by simpa using hv
              have HM5 := Lib.hid (moves_step HM4.out hm5)
              have H25 := Lib.hid (blk_grown H24.out hm5.1 (by intro e; cases e; omega))
              have HL := Lib.hid hl
              have hB4 := blk_lt H24.out
              clear hm5 hv hl
              unfold tokVal
              have x0 := blk_cell H25.out 0
              have x1 := blk_cell H25.out 1
              have x2 := blk_cell H25.out 2
              have x3 := blk_cell H25.out 3
              have x4 := blk_cell H25.out 4
              have xf0 := blk_frozen H25.out 0
              have xf1 := blk_frozen H25.out 1
              have xf2 := blk_frozen H25.out 2
              have xf3 := blk_frozen H25.out 3
              have xf4 := blk_frozen H25.out 4
              go_wp2
              obtain ⟨q0, q1, q2, q3, q4⟩ := five_cells H25.out (.int .i64 t.kind) (.string (strOfNums t.text)) (.slice A n c') (.slice B m d) (.int .i64 (t.at_ : Int))
              unfold fiveSet at q0 q1 q2 q3 q4
              refine bodyPost_ret (v := .agg #[(.int .i64 t.kind), (.string (strOfNums t.text)), (.slice A n c'), (.slice B m d), (.int .i64 (t.at_ : Int))]) (by simp [results, Try.results14, go_sem, q0, q1, q2, q3, q4]) rfl ?_
              exact ⟨_, _, rfl, lit_five HL.out hB4, five_moves HM5.out (Nat.le_refl _) hgl _ _ _ _ _⟩
      ·
        go_wp2_with fail
        refine (numbers_any g s v i fp W4 HM4.out.2 HB.out hs).mono ?_
        intro e w5 hw5
        have hRn : R = numsWord i (Kx.numsAt ((nb s).length + 1) (nb s) i []) := by rw [← HR.out]; unfold Kx.wordAt; rw [if_neg HK.out, if_pos HB.out]; cases Kx.numsAt ((nb s).length + 1) (nb s) i [] <;> rfl
        rw [← hRn] at hw5
        clear hRn HR
        cases R with
        | bad er j =>
          obtain ⟨k, x', A, n, c', B, m, d, p, rfl, q, hm5⟩ := hw5
          have HM5 := Lib.hid (moves_step HM4.out hm5)
          have H25 := Lib.hid (blk_grown H24.out hm5.1 (by intro e; cases e; omega))
          clear hm5
          have x0 := blk_cell H25.out 0
          have x1 := blk_cell H25.out 1
          have x2 := blk_cell H25.out 2
          have x3 := blk_cell H25.out 3
          have x4 := blk_cell H25.out 4
          have xf0 := blk_frozen H25.out 0
          have xf1 := blk_frozen H25.out 1
          have xf2 := blk_frozen H25.out 2
          have xf3 := blk_frozen H25.out 3
          have xf4 := blk_frozen H25.out 4
          go_wp2
          obtain ⟨q0, q1, q2, q3, q4⟩ := five_cells H25.out (.int .i64 k) (.string x') (.slice A n c') (.slice B m d) (.int .i64 p)
          unfold fiveSet at q0 q1 q2 q3 q4
          refine bodyPost_ret (v := .agg #[(.int .i64 k), (.string x'), (.slice A n c'), (.slice B m d), (.int .i64 p)]) (by simp [results, Try.results14, go_sem, q0, q1, q2, q3, q4]) rfl ?_
          exact ⟨k, x', A, n, c', B, m, d, p, rfl, q, five_moves HM5.out (Nat.le_refl _) hgl _ _ _ _ _⟩
        | good t j =>
          obtain ⟨a0, a1, rfl, hl, hm5⟩ := hw5
          obtain ⟨A, n, c', B, m, d, hv⟩ := lit_form hl
          obtain ⟨rfl, rfl⟩ : a0 = .slice A n c' ∧ a1 = .slice B m d := by simpa using hv
          have HM5 := Lib.hid (moves_step HM4.out hm5)
          have H25 := Lib.hid (blk_grown H24.out hm5.1 (by intro e; cases e; omega))
          have HL := Lib.hid hl
          have hB4 := blk_lt H24.out
          clear hm5 hv hl
          unfold tokVal
          have x0 := blk_cell H25.out 0
          have x1 := blk_cell H25.out 1
          have x2 := blk_cell H25.out 2
          have x3 := blk_cell H25.out 3
          have x4 := blk_cell H25.out 4
          have xf0 := blk_frozen H25.out 0
          have xf1 := blk_frozen H25.out 1
          have xf2 := blk_frozen H25.out 2
          have xf3 := blk_frozen H25.out 3
          have xf4 := blk_frozen H25.out 4
          go_wp2
          obtain ⟨q0, q1, q2, q3, q4⟩ := five_cells H25.out (.int .i64 t.kind) (.string (strOfNums t.text)) (.slice A n c') (.slice B m d) (.int .i64 (t.at_ : Int))
          unfold fiveSet at q0 q1 q2 q3 q4
          refine bodyPost_ret (v := .agg #[(.int .i64 t.kind), (.string (strOfNums t.text)), (.slice A n c'), (.slice B m d), (.int .i64 (t.at_ : Int))]) (by simp [results, Try.results14, go_sem, q0, q1, q2, q3, q4]) rfl ?_
          exact ⟨_, _, rfl, lit_five HL.out hB4, five_moves HM5.out (Nat.le_refl _) hgl _ _ _ _ _⟩
end Go.Proofs.Ytiboikbccmfedaa
