/- Contract of the lexer's numbers. Conditions: the lexer's block reads in memory; a number begins at its place. -/
import Derived.Test.YtkghglncmekdgaaKi
namespace Go.Proofs.Ytkghglncmekdgaa
open Go.RowKit

theorem own_grown {w w1 : World} {base n : Nat} {e : TypeId} {size : Nat} {v : Value} {xs : List Value} {g : Nat} (h : w.ownsRow base e size v n xs) (hb : w.grownBy w1 (some g)) (hg : g < base) : w1.ownsRow base e size v n xs := by
  obtain ⟨h1, h2⟩ := h
  refine ⟨h1, ?_⟩
  rcases h2 with h2 | ⟨k, cap, cur, rfl, hbg, hk, r⟩
  · exact .inl h2
  · exact .inr ⟨k, cap, cur, rfl, hbg, blk_grown hk hb (by intro e; cases e; omega), r⟩
theorem info2 : (Try.prog.info? 2).map (fun i => (i.zero, i.size, i.bytes)) = some (some (.int .i64 0), 1, 8) := by kernel_rfl

theorem while_blank (g : Nat) (s : ByteArray) (i : Nat) (w : World) (hg : w.heap[g]? = some (lcell s i)) (hi : i ≤ s.size) (hs : s.size ≤ 100000) :
    Calls Try.prog 15 #[.pointer (some ⟨g, 0, none⟩), .func (.func 37) #[] #[]] w (WhileTo g s i Kx.blank w) :=
  while_any 37 Kx.blank (enters_of Try.func37 (by kernel_rfl) rfl) blank37_any g s i w hg hi hs

theorem str_empty (l : List Int) : (strOfNums l).toList.isEmpty = (l.length == 0) := by
  rw [Lib.toList_data, strOfNums_data]
  cases l <;> rfl

def NumbersIs (R : Kx.Nums) (g : Nat) (s : ByteArray) (w : World) (e : Ending) (w' : World) : Prop :=
  match R with
  | .bad j => e = .returned (.tuple #[.agg #[.slice none 0 0, .slice none 0 0], .int .i64 (j : Int)]) ∧ ∃ k, Moves g s k w w'
  | .good xs j => ∃ v, e = .returned (.tuple #[v, .int .i64 (-1)]) ∧ LitAt (w.heap.size ≤ ·) w' v (Kx.litNums xs) ∧ Moves g s j w w'
def NumbersTo (g : Nat) (s : ByteArray) (i : Nat) (w : World) : Ending → World → Prop := NumbersIs (Kx.numsAt ((nb s).length + 1) (nb s) i []) g s w
theorem moves_old {g : Nat} {s : ByteArray} {k : Nat} {w w' : World} {B : Nat} (h : Moves g s k w w') (hB : w.heap.size ≤ B) (hg : g < w.heap.size) (i : Nat) (v : Value) : Moves g s k w (w'.setCell ⟨B, i, none⟩ v) :=
  ⟨⟨h.1.os, h.1.tape, h.1.output, by simpa [World.setCell] using h.1.size, fun j hj hne => (Below.heap_setCell w' _ v j (by simp; omega)).trans (h.1.block j hj hne)⟩, blk_far h.2 (by simp; omega) v⟩

theorem moves_own {g : Nat} {s : ByteArray} {k : Nat} {w w' w'' : World} {r : Option Nat} (h : Moves g s k w w') (hw : w'.grownBy w'' r) (hg : g < w.heap.size) (hr : ∀ b, r = some b → w.heap.size ≤ b) : Moves g s k w w'' := by
  have hne : ∀ b, b < w.heap.size → r ≠ some b := fun b hb e => by have := hr b e; omega
  exact ⟨⟨hw.os.trans h.1.os, hw.tape.trans h.1.tape, hw.output.trans h.1.output, Nat.le_trans h.1.size hw.size, fun j hj hn => (hw.block j (Nat.lt_of_lt_of_le hj h.1.size) (fun e => hne j hj e.symm)).trans (h.1.block j hj hn)⟩, blk_grown h.2 hw (hne g hg)⟩

/-- the array is laid into the result's variable -/
theorem lit_store {w w4 w5 : World} {v0 v1 : Value} {t : Kx.Lit} (h : LitAt (w4.heap.size ≤ ·) w5 (.agg #[v0, v1]) t) (hw : w.heap.size < w4.heap.size) :
    LitAt (w.heap.size ≤ ·) ((w5.setCell ⟨w.heap.size, 0, none⟩ v0).setCell ⟨w.heap.size, 1, none⟩ v1) (.agg #[v0, v1]) t := by
  refine h.mono (by simp [World.setCell]) (fun b (hS : w4.heap.size ≤ b) hb => ⟨Nat.le_trans (by omega) hS, ?_⟩)
  exact (Below.heap_setCell _ _ _ b (by simp; omega)).trans (Below.heap_setCell _ _ _ b (by simp; omega))
theorem nums_lit (xs : List Int) (A : Option Addr) (n c : Nat) (w : World) (hr : RowAt .i64 w A xs) (hl : xs.length = n) (hn : n ≤ 1000000) (h1 : ¬ n = 1) : Calls Try.prog 39 #[.slice A n c] w (LitTo (Kx.litNums xs) w) := by
  unfold Kx.litNums
  rw [if_neg (by omega), hl]
  exact nums_any A n c xs w hr hl hn
theorem atom_lit (x : Int) (w : World) : Calls Try.prog 38 #[.int .i64 x] w (LitTo (Kx.litNums [x]) w) := atom_any x w
theorem lit_form {S : Nat → Prop} {w : World} {v : Value} {t : Kx.Lit} (h : LitAt S w v t) : ∃ A n c B m d, v = .agg #[.slice A n c, .slice B m d] := by
  obtain ⟨A, n, c, B, m, d, h1, _⟩ := h
  exact ⟨A, n, c, B, m, d, h1⟩

set_option maxRecDepth 100000 in
set_option maxHeartbeats 2000000 in
theorem numbers_any (g : Nat) (s : ByteArray) (i : Nat) (w : World) (hg : w.heap[g]? = some (lcell s i)) (hb : Kx.begins (nb s) i = true) (hs : s.size ≤ 100000) :
    Calls Try.prog 23 #[.pointer (some ⟨g, 0, none⟩)] w (NumbersTo g s i w) := by
  obtain ⟨i2, hi2, hz2, hs2, hb2⟩ := info_parts info2
  have hgl := blk_lt hg
  have H := Lib.hid hg
  have HBG := Lib.hid hb
  have hnl := nb_length s
  have hlt := Kx.begins_lt hb
  clear hg hb
  obtain ⟨R, hR⟩ : ∃ R, Kx.numsAt ((nb s).length + 1) (nb s) i [] = R := ⟨_, rfl⟩
  unfold NumbersTo
  rw [hR]
  have HRR := Lib.hid hR
  have HNL := Lib.hid hnl
  clear hR
  go_enter Try.func23, Try.ntmps23
  go_wp2
  go_loopg [4] ((nb s).length + 1) (fun f v wr => ∃ (at_ : Nat) (acc : List Int), at_ < s.size ∧ s.size < at_ + f ∧ acc.length ≤ at_ ∧ Kx.begins (nb s) at_ = true ∧ Kx.numsAt f (nb s) at_ acc = R ∧ Moves g s at_ w wr ∧ (∃ o : Value × Value, wr.heap[w.heap.size]? = some (.cells #[o.1, o.2] 33 (0, 0))) ∧ wr.ownsRow (w.heap.size + 1) 2 1 v acc.length (nums .i64 acc))
  case atStart =>
    refine ⟨i, [], by omega, by omega, Nat.zero_le _, HBG.out, HRR.out, ?_, ⟨(.slice none 0 0, .slice none 0 0), blk_new w _⟩, World.ownsRow_nil _ _ _ _⟩
    exact moves_below (moves_refl H.out) ((Below.refl _ _).alloc (Nat.le_refl _) _)
  case round =>
    obtain ⟨at_, acc, hat, hf, hacc, hbg, hM, hmv, hres, hown⟩ := hrel
    obtain ⟨f, rfl⟩ : ∃ f, gk = f + 1 := ⟨gk - 1, by omega⟩
    have hst := Kx.num_step hbg
    have c1 := blk_cell hmv.2 1
    have HM := Lib.hid hM
    have HMV := Lib.hid hmv
    have HRES := Lib.hid hres
    have HOWN := Lib.hid hown
    have HACC := Lib.hid hacc
    clear hM hmv hres hown hacc hbg
    go_wp2_with fail
    refine (number_any g s at_ wr HMV.out.2 hat hs).mono ?_
    rintro e w1 ⟨v1, rfl, hv1, hm1⟩
    generalize hr1 : Kx.numAt (nb s) at_ = r1 at *
    obtain ⟨x, j1, ok⟩ := r1
    dsimp only at hv1 hm1 hst ⊢
    have HR1 := Lib.hid hr1
    have HM1 := Lib.hid hm1
    clear hr1 hm1
    cases ok
    · obtain ⟨⟨o0, o1⟩, hres⟩ := HRES.out
      have hres1 := blk_grown hres HM1.out.1 (by intro e; cases e; omega)
      have r0 := blk_cell hres1 0
      have r1 := blk_cell hres1 1
      have rf := blk_frozen hres1 0
      have rf1 := blk_frozen hres1 1
      have HRES1 := Lib.hid hres1
      clear hres hres1 hv1 c1
      have hRb : R = .bad at_ := by rw [← HM.out, Kx.numsAt, HR1.out]; rfl
      subst hRb
      go_wp2
      refine bodyPost_ret (v := .tuple #[.agg #[.slice none 0 0, .slice none 0 0], .int .i64 (at_ : Int)]) ?_ rfl ?_
      · have hr := blk_set (blk_set HRES1.out 0 (.slice none 0 0)) 1 (.slice none 0 0)
        have q0 := blk_cell hr 0
        have q1 := blk_cell hr 1
        simp [results, Try.results23, go_sem, q0, q1]
      · exact ⟨rfl, j1, moves_old (moves_old (moves_step HMV.out HM1.out) (Nat.le_refl _) hgl 0 _) (Nat.le_refl _) hgl 1 _⟩
    · obtain rfl : v1 = x := hv1 rfl
      have c2 := blk_cell HM1.out.2 1
      have cf := blk_frozen HM1.out.2 1
      have hsz := HM1.out.1.size
      have hsz0 := HMV.out.1.size
      have hacc1 : acc.length ≤ 100000 := by have := HACC.out; omega
      have hown1 := own_grown HOWN.out HM1.out.1 (by omega)
      have HOWN1 := Lib.hid hown1
      have hbs : w.heap.size < w1.heap.size := by obtain ⟨o, ho⟩ := HRES.out; have := blk_lt ho; omega
      clear hown1 hv1
      go_wp2_with
        (at_builtin; refine wpList_append_lies _ rfl (.tmp 22) (.tmp 24) 44 rfl (w.heap.size + 1) 2 i2 _ 1 8 Try.underlying44 hi2 hz2 hs2 hb2 rfl (by omega) u4 acc.length (nums .i64 acc) rfl (HOWN1.out.alloc _)
            ⟨w1.heap.size, 0, none⟩ 1 1 (nums .i64 [v1]) rfl rfl (World.news_of_block (cs := (nums .i64 [v1]).toArray) (t := 2) (fr := (0, 0)) (heap_alloc_new w1 _)) nums_one (by omega) (by unfold maxLen; omega) (by omega) (by simp; omega) (w1.heap.size + 1) (by simp) ?_; intro gg cap w2 hown2 hgrow hat2 hlt2; have HM2 := Lib.hid (moves_own (moves_below (moves_step HMV.out HM1.out) ((Below.refl w1.heap.size w1).alloc (Nat.le_refl _) (Obj.cells (nums .i64 [v1]).toArray 2))) hgrow hgl (fun b hb => by have := (HOWN1.out.lt b hb).1; omega)); have d1 := blk_cell HM2.out.2 1)
      have hres2 : ∃ o : Value × Value, w2.heap[w.heap.size]? = some (.cells #[o.1, o.2] 33 (0, 0)) := by
        obtain ⟨o, ho⟩ := HRES.out
        exact ⟨o, blk_grown (blk_alloc (blk_grown ho HM1.out.1 (by intro e; cases e; omega)) _) hgrow (own_ne HOWN1.out (by omega))⟩
      have HRES2 := Lib.hid hres2
      have HOWN2 := Lib.hid (show w2.ownsRow (w.heap.size + 1) 2 1 (.slice (some ⟨gg, 0, none⟩) (acc.length + 1) cap) (acc.length + 1) (nums .i64 (acc ++ [v1])) by rw [nums_append]; exact hown2)
      clear hres2 hown2 hgrow hat2 hlt2 c1 c2 cf hsz hsz0 HOWN1 hbs
      go_wp2_with fail
      refine (while_blank g s j1 w2 HM2.out.2 (by omega) hs).mono ?_
      rintro e w3 ⟨rfl, hm3⟩
      have hspl := Kx.span_le Kx.blank ((nb s).drop j1)
      rw [List.length_drop, nb_length] at hspl
      generalize hbq : Kx.span Kx.blank ((nb s).drop j1) = b at *
      have hem : (strOfNums (((nb s).drop j1).take b)).toList.isEmpty = (b == 0) := by
        rw [str_empty, List.length_take, List.length_drop, nb_length, Nat.min_eq_left (by omega)]
      generalize strOfNums (((nb s).drop j1).take b) = sb at hem ⊢
      obtain ⟨o, hres3⟩ := HRES2.out
      have HRES3 := Lib.hid (blk_grown hres3 hm3.1 (by intro e; cases e; omega))
      have HOWN3 := Lib.hid (own_grown HOWN2.out hm3.1 (by omega))
      have HSZ3 := Lib.hid (blk_lt HRES3.out)
      have HM3 := Lib.hid hm3
      have HBQ := Lib.hid hbq
      have d3 := blk_cell hm3.2 1
      have f3 := blk_frozen hm3.2 1
      have hnum : Kx.numsAt (f + 1) (nb s) at_ acc = if b = 0 ∨ Kx.begins (nb s) (j1 + b) = false then .good (acc ++ [v1]) j1 else Kx.numsAt f (nb s) (j1 + b) (acc ++ [v1]) := by
        rw [Kx.numsAt, HR1.out]
        show (if Kx.span Kx.blank ((nb s).drop j1) = 0 ∨ _ then _ else _) = _
        rw [HBQ.out]
      rw [HM.out] at hnum
      have HNUM := Lib.hid hnum
      clear hm3 hres3 hbq hnum d1
      have hjb : j1 + b ≤ s.size := by omega
      clear hspl
      by_cases hb0 : b = 0
      · subst hb0
        have hem' : sb.toList.isEmpty = true := hem
        have hRg : R = .good (acc ++ [v1]) j1 := by rw [HNUM.out, if_pos (.inl rfl)]
        subst hRg
        clear hem
        by_cases h1 : acc.length = 0
        · obtain rfl : acc = [] := List.length_eq_zero_iff.1 h1
          have cx : w3.cell? ⟨gg, 0, none⟩ = some (.int .i64 v1) := by
            obtain ⟨A, c, hv, _, _, _, _, hrow⟩ := own_row HOWN3.out
            cases hv
            obtain ⟨b, off, e, hc⟩ := hrow.2 (by simp)
            cases e
            simpa using hc 0 (by simp)
          have hgg : ¬ g = gg := by
            have := (HOWN3.out.lt gg rfl).1
            omega
          have hgg' : ¬ gg = g := fun e => hgg e.symm
          clear h1
          go_wp2_with fail
          have HM4 := Lib.hid (moves_set (moves_step HM2.out HM3.out) j1)
          have HRES4 := Lib.hid (blk_far (p := ⟨g, 1, none⟩) HRES3.out (by simp; omega) (.int .i64 (j1 : Int)))
          have HOWN4 := Lib.hid (own_far (p := ⟨g, 1, none⟩) HOWN3.out (by simp; omega) (.int .i64 (j1 : Int)))
          have HSZ4 := Lib.hid (show w.heap.size < (w3.setCell ⟨g, 1, none⟩ (.int .i64 (j1 : Int))).heap.size by simpa [World.setCell] using HSZ3.out)
          generalize w3.setCell ⟨g, 1, none⟩ (.int .i64 (j1 : Int)) = w4 at HM4 HRES4 HOWN4 HSZ4 ⊢
          refine (atom_lit v1 w4).mono ?_
          rintro e w5 ⟨v, rfl, hlit, hb5⟩
          obtain ⟨lA, ln, lc, lB, lm, ld, rfl⟩ := lit_form hlit
          have hres5 := blk_below HRES4.out hb5 (blk_lt HRES4.out)
          have s0 := blk_cell hres5 0
          have s1 := blk_cell hres5 1
          have sf := blk_frozen hres5 0
          have sf1 := blk_frozen hres5 1
          have HRES5 := Lib.hid hres5
          have HLIT := Lib.hid hlit
          have HM5 := Lib.hid (moves_below HM4.out hb5)
          clear hres5 hlit hb5
          go_wp2
          refine bodyPost_ret (v := .tuple #[.agg #[.slice lA ln lc, .slice lB lm ld], .int .i64 (-1)]) ?_ rfl ?_
          · have hr := blk_set (blk_set HRES5.out 0 (.slice lA ln lc)) 1 (.slice lB lm ld)
            have q0 := blk_cell hr 0
            have q1 := blk_cell hr 1
            simp [results, Try.results23, go_sem, q0, q1]
          · exact ⟨_, rfl, lit_store HLIT.out HSZ4.out, moves_old (moves_old HM5.out (Nat.le_refl _) hgl 0 _) (Nat.le_refl _) hgl 1 _⟩
        · have hne : ((acc.length : Int) + 1 == 1) = false := beq_eq_false_iff_ne.2 (by omega)
          go_wp2_with fail
          have HM4 := Lib.hid (moves_set (moves_step HM2.out HM3.out) j1)
          have HRES4 := Lib.hid (blk_far (p := ⟨g, 1, none⟩) HRES3.out (by simp; omega) (.int .i64 (j1 : Int)))
          have HOWN4 := Lib.hid (own_far (p := ⟨g, 1, none⟩) HOWN3.out (by simp; omega) (.int .i64 (j1 : Int)))
          have HSZ4 := Lib.hid (show w.heap.size < (w3.setCell ⟨g, 1, none⟩ (.int .i64 (j1 : Int))).heap.size by simpa [World.setCell] using HSZ3.out)
          generalize w3.setCell ⟨g, 1, none⟩ (.int .i64 (j1 : Int)) = w4 at HM4 HRES4 HOWN4 HSZ4 ⊢
          have hrow4 : RowAt .i64 w4 (some ⟨gg, 0, none⟩) (acc ++ [v1]) := by
            obtain ⟨A, c, hv, _, _, _, _, hrow⟩ := own_row HOWN4.out
            cases hv
            exact hrow
          refine (nums_lit (acc ++ [v1]) _ (acc.length + 1) cap w4 hrow4 (by simp) (by omega) (by omega)).mono ?_
          clear hrow4
          rintro e w5 ⟨v, rfl, hlit, hb5⟩
          obtain ⟨lA, ln, lc, lB, lm, ld, rfl⟩ := lit_form hlit
          have hres5 := blk_below HRES4.out hb5 (blk_lt HRES4.out)
          have s0 := blk_cell hres5 0
          have s1 := blk_cell hres5 1
          have sf := blk_frozen hres5 0
          have sf1 := blk_frozen hres5 1
          have HRES5 := Lib.hid hres5
          have HLIT := Lib.hid hlit
          have HM5 := Lib.hid (moves_below HM4.out hb5)
          clear hres5 hlit hb5
          go_wp2
          refine bodyPost_ret (v := .tuple #[.agg #[.slice lA ln lc, .slice lB lm ld], .int .i64 (-1)]) ?_ rfl ?_
          · have hr := blk_set (blk_set HRES5.out 0 (.slice lA ln lc)) 1 (.slice lB lm ld)
            have q0 := blk_cell hr 0
            have q1 := blk_cell hr 1
            simp [results, Try.results23, go_sem, q0, q1]
          · exact ⟨_, rfl, lit_store HLIT.out HSZ4.out, moves_old (moves_old HM5.out (Nat.le_refl _) hgl 0 _) (Nat.le_refl _) hgl 1 _⟩
      · have hem' : sb.toList.isEmpty = false := by rw [hem]; exact beq_eq_false_iff_ne.2 hb0
        clear hem
        cases hbeg : Kx.begins (nb s) (j1 + b)
        · have hRg : R = .good (acc ++ [v1]) j1 := by rw [HNUM.out, if_pos (.inr hbeg)]
          subst hRg
          by_cases h1 : acc.length = 0
          · obtain rfl : acc = [] := List.length_eq_zero_iff.1 h1
            have cx : w3.cell? ⟨gg, 0, none⟩ = some (.int .i64 v1) := by
              obtain ⟨A, c, hv, _, _, _, _, hrow⟩ := own_row HOWN3.out
              cases hv
              obtain ⟨b, off, e, hc⟩ := hrow.2 (by simp)
              cases e
              simpa using hc 0 (by simp)
            have hgg : ¬ g = gg := by
              have := (HOWN3.out.lt gg rfl).1
              omega
            have hgg' : ¬ gg = g := fun e => hgg e.symm
            clear h1
            go_wp2_with fail
            refine (begins_any g s (j1 + b) w3 HM3.out.2 (by omega)).mono ?_
            rintro e w4 ⟨rfl, rfl⟩
            rw [hbeg]
            go_wp2_with fail
            have HM4 := Lib.hid (moves_set (moves_step HM2.out HM3.out) j1)
            have HRES4 := Lib.hid (blk_far (p := ⟨g, 1, none⟩) HRES3.out (by simp; omega) (.int .i64 (j1 : Int)))
            have HOWN4 := Lib.hid (own_far (p := ⟨g, 1, none⟩) HOWN3.out (by simp; omega) (.int .i64 (j1 : Int)))
            have HSZ4 := Lib.hid (show w.heap.size < (w3.setCell ⟨g, 1, none⟩ (.int .i64 (j1 : Int))).heap.size by simpa [World.setCell] using HSZ3.out)
            generalize w3.setCell ⟨g, 1, none⟩ (.int .i64 (j1 : Int)) = w4 at HM4 HRES4 HOWN4 HSZ4 ⊢
            refine (atom_lit v1 w4).mono ?_
            rintro e w5 ⟨v, rfl, hlit, hb5⟩
            obtain ⟨lA, ln, lc, lB, lm, ld, rfl⟩ := lit_form hlit
            have hres5 := blk_below HRES4.out hb5 (blk_lt HRES4.out)
            have s0 := blk_cell hres5 0
            have s1 := blk_cell hres5 1
            have sf := blk_frozen hres5 0
            have sf1 := blk_frozen hres5 1
            have HRES5 := Lib.hid hres5
            have HLIT := Lib.hid hlit
            have HM5 := Lib.hid (moves_below HM4.out hb5)
            clear hres5 hlit hb5
            go_wp2
            refine bodyPost_ret (v := .tuple #[.agg #[.slice lA ln lc, .slice lB lm ld], .int .i64 (-1)]) ?_ rfl ?_
            · have hr := blk_set (blk_set HRES5.out 0 (.slice lA ln lc)) 1 (.slice lB lm ld)
              have q0 := blk_cell hr 0
              have q1 := blk_cell hr 1
              simp [results, Try.results23, go_sem, q0, q1]
            · exact ⟨_, rfl, lit_store HLIT.out HSZ4.out, moves_old (moves_old HM5.out (Nat.le_refl _) hgl 0 _) (Nat.le_refl _) hgl 1 _⟩
          · have hne : ((acc.length : Int) + 1 == 1) = false := beq_eq_false_iff_ne.2 (by omega)
            go_wp2_with fail
            refine (begins_any g s (j1 + b) w3 HM3.out.2 (by omega)).mono ?_
            rintro e w4 ⟨rfl, rfl⟩
            rw [hbeg]
            go_wp2_with fail
            have HM4 := Lib.hid (moves_set (moves_step HM2.out HM3.out) j1)
            have HRES4 := Lib.hid (blk_far (p := ⟨g, 1, none⟩) HRES3.out (by simp; omega) (.int .i64 (j1 : Int)))
            have HOWN4 := Lib.hid (own_far (p := ⟨g, 1, none⟩) HOWN3.out (by simp; omega) (.int .i64 (j1 : Int)))
            have HSZ4 := Lib.hid (show w.heap.size < (w3.setCell ⟨g, 1, none⟩ (.int .i64 (j1 : Int))).heap.size by simpa [World.setCell] using HSZ3.out)
            generalize w3.setCell ⟨g, 1, none⟩ (.int .i64 (j1 : Int)) = w4 at HM4 HRES4 HOWN4 HSZ4 ⊢
            have hrow4 : RowAt .i64 w4 (some ⟨gg, 0, none⟩) (acc ++ [v1]) := by
              obtain ⟨A, c, hv, _, _, _, _, hrow⟩ := own_row HOWN4.out
              cases hv
              exact hrow
            refine (nums_lit (acc ++ [v1]) _ (acc.length + 1) cap w4 hrow4 (by simp) (by omega) (by omega)).mono ?_
            clear hrow4
            rintro e w5 ⟨v, rfl, hlit, hb5⟩
            obtain ⟨lA, ln, lc, lB, lm, ld, rfl⟩ := lit_form hlit
            have hres5 := blk_below HRES4.out hb5 (blk_lt HRES4.out)
            have s0 := blk_cell hres5 0
            have s1 := blk_cell hres5 1
            have sf := blk_frozen hres5 0
            have sf1 := blk_frozen hres5 1
            have HRES5 := Lib.hid hres5
            have HLIT := Lib.hid hlit
            have HM5 := Lib.hid (moves_below HM4.out hb5)
            clear hres5 hlit hb5
            go_wp2
            refine bodyPost_ret (v := .tuple #[.agg #[.slice lA ln lc, .slice lB lm ld], .int .i64 (-1)]) ?_ rfl ?_
            · have hr := blk_set (blk_set HRES5.out 0 (.slice lA ln lc)) 1 (.slice lB lm ld)
              have q0 := blk_cell hr 0
              have q1 := blk_cell hr 1
              simp [results, Try.results23, go_sem, q0, q1]
            · exact ⟨_, rfl, lit_store HLIT.out HSZ4.out, moves_old (moves_old HM5.out (Nat.le_refl _) hgl 0 _) (Nat.le_refl _) hgl 1 _⟩
        · have hRg : R = Kx.numsAt f (nb s) (j1 + b) (acc ++ [v1]) := by rw [HNUM.out, if_neg (by rw [hbeg]; simp [hb0])]
          have HRG := Lib.hid hRg
          clear hRg
          go_wp2_with fail
          refine (begins_any g s (j1 + b) w3 HM3.out.2 (by omega)).mono ?_
          rintro e w4 ⟨rfl, rfl⟩
          rw [hbeg]
          have hblt := Kx.begins_lt hbeg
          have HBEG := Lib.hid hbeg
          clear hbeg
          go_wp2
          go_roundg f
          case measure => omega
          case rel =>
            refine ⟨j1 + b, acc ++ [v1], by omega, by omega, by have := HACC.out; simp; omega, HBEG.out, HRG.out.symm, moves_step HM2.out HM3.out, ⟨o, HRES3.out⟩, ?_⟩
            simpa using HOWN3.out
end Go.Proofs.Ytkghglncmekdgaa
