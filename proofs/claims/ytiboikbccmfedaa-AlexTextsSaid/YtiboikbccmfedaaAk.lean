/- Contract of the lexer's fixed. Conditions: the lexer's block reads in memory; a sign stands at its place; the library's variable holds an int. -/
import Derived.Test.YtiboikbccmfedaaAj
import Derived.Test.YtiboikbccmfedaaAh
import Derived.Laws.IdiomRangeMap
import Derived.LoopN
import Derived.Test.YtiboikbccmfedaaAl
import Derived.Test.YtiboikbccmfedaaAn
namespace Go.Proofs.Ytiboikbccmfedaa
open Go.RowKit

theorem has_is (s p : ByteArray) (i : Nat) (hi : i ≤ s.size) {b : Bool} (h : Kx.pre (nb p) (nb s) i = b) (w : World) : Calls Try.prog 13 #[.string (s.extract i s.size), .string p] w fun e w' => e = .returned (.bool b) ∧ w' = w := by
  subst h
  exact has_any s p i hi w
/-- behind the look for a word that is always the same -/
def FixedTo (R : Option (List Int × Int)) (g : Nat) (s : ByteArray) (v : Value) (i : Nat) (fp : Int) (w : World) (e : Ending) (w' : World) : Prop :=
  (match R with
    | none => e = .returned (.tuple #[.agg #[.int .i64 0, .string ⟨#[]⟩, .slice none 0 0, .slice none 0 0, .int .i64 0], .bool false])
    | some x => e = .returned (.tuple #[.agg #[.int .i64 x.2, .string (strOfNums x.1), .slice none 0 0, .slice none 0 0, .int .i64 (i : Int)], .bool true])) ∧ Moves g s v i 0 fp w w'

theorem fixed_find {l : List Int} {i k : Nat} {x : List Int × Int} (hk : Kx.fixedWords[k]? = some x) (hno : ∀ y ∈ Kx.fixedWords.take k, Kx.pre y.1 l i = false) (h : Kx.pre x.1 l i = true) : Kx.fixedAt l i = some x := by
  have hf : Kx.fixedWords.find? (fun w => Kx.pre w.1 l i) = some x := by
    rw [← List.take_append_drop k Kx.fixedWords, List.find?_append, List.find?_eq_none.2 (fun y hy => by rw [hno y hy]; exact Bool.false_ne_true)]
    have hlt := (List.getElem?_eq_some_iff.1 hk).1
    rw [List.drop_eq_getElem_cons hlt, (List.getElem?_eq_some_iff.1 hk).2, List.find?_cons, h]
    rfl
  unfold Kx.fixedAt
  rw [hf]

/-- the three groups of signs as the program's map holds them -/
def mapE : Array MapEntry := #[{ key := .int .i64 4, val := .string ⟨#[43, 45, 195, 151, 124, 126, 226, 141, 179, 226, 141, 180, 226, 137, 162, 44, 226, 138, 150, 226, 140, 189, 226, 141, 137, 226, 141, 139, 226, 141, 146, 226, 136, 170, 226, 138, 130, 226, 138, 131, 195, 183, 226, 140, 138, 226, 140, 136, 61, 226, 137, 160, 60, 62, 226, 137, 164, 226, 137, 165, 226, 134, 145, 226, 134, 147, 226, 141, 170, 226, 136, 138, 226, 140, 191, 47, 92, 226, 141, 128, 226, 140, 183, 226, 141, 168, 226, 141, 163, 226, 139, 132]⟩, born := 0 }, { key := .int .i64 5, val := .string ⟨#[40, 123, 91]⟩, born := 1 }, { key := .int .i64 6, val := .string ⟨#[41, 125, 93]⟩, born := 2 }]
theorem mapE_born : ∀ x ∈ mapE.toList, x.born < 3 := by
  intro x hx
  simp only [mapE, List.mem_cons, List.not_mem_nil, or_false] at hx
  rcases hx with rfl | rfl | rfl <;> decide
theorem mapE_nodup : (mapE.toList.map (·.born)).Nodup := by
  show ([0, 1, 2] : List Nat).Nodup
  decide
theorem mapE_val : ∀ x ∈ mapE.toList, ∃ (k : Int) (t : ByteArray), x.key = .int .i64 k ∧ x.val = .string t ∧ t.size ≤ 1000000 ∧ (nb t, k) ∈ Kx.groups := by
  intro x hx
  simp only [mapE, List.mem_cons, List.not_mem_nil, or_false] at hx
  rcases hx with rfl | rfl | rfl
  · exact ⟨4, _, rfl, rfl, by decide, by decide⟩
  · exact ⟨5, _, rfl, rfl, by decide, by decide⟩
  · exact ⟨6, _, rfl, rfl, by decide, by decide⟩
theorem mapE_all : ∀ x ∈ Kx.groups, ∃ e ∈ mapE.toList, ∃ t, e.val = .string t ∧ nb t = x.1 := by
  intro x hx
  simp only [Kx.groups, List.mem_cons, List.not_mem_nil, or_false] at hx
  rcases hx with rfl | rfl | rfl
  · exact ⟨_, List.mem_cons_self, _, rfl, by decide⟩
  · exact ⟨_, List.mem_cons_of_mem _ List.mem_cons_self, _, rfl, by decide⟩
  · exact ⟨_, List.mem_cons_of_mem _ (List.mem_cons_of_mem _ List.mem_cons_self), _, rfl, by decide⟩
theorem contains_is (s p : ByteArray) (w : World) (hs : s.size ≤ 1000000) (hg : Glob w) {b : Bool} (h : Kx.has (nb s) (nb p) = b) : Calls Try.prog 39 #[.string s, .string p] w fun e w' => e = .returned (.bool b) ∧ w' = w := by
  subst h
  exact contains_any s p w hs hg
theorem moves_like {g : Nat} {s : ByteArray} {v : Value} {i : Nat} {er fp : Int} {w w' w'' : World} (h : Moves g s v i er fp w w') (ha : w''.Alike w') (ht : w''.tape = w'.tape) : Moves g s v i er fp w w'' :=
  ⟨⟨ha.2.1.trans h.1.os, ht.trans h.1.tape, ha.2.2.trans h.1.output, by rw [ha.1]; exact h.1.size, fun j hj hne => by rw [ha.1]; exact h.1.block j hj hne⟩, by rw [ha.1]; exact h.2⟩
theorem glob_ne {w : World} {g : Nat} {s : ByteArray} {v : Value} {i : Nat} {er fp : Int} (h : Glob w) (hg : w.heap[g]? = some (acell s v i er fp)) : g ≠ 0 := by
  rintro rfl
  obtain ⟨m, hm⟩ := h
  have := blk_cell hg 0
  rw [hm] at this
  simp at this
theorem Glob.moves {w w' : World} {g : Nat} {s s' : ByteArray} {v v' : Value} {i j : Nat} {er fp er' fp' : Int} (h : Glob w) (hg : w.heap[g]? = some (acell s v i er fp)) (hm : Moves g s' v' j er' fp' w w') : Glob w' := h.grown hm.1 (glob_ne h hg)
theorem fixed_sign {l : List Int} {i x k : Nat} (hno : ∀ y ∈ Kx.fixedWords.take 5, Kx.pre y.1 l i = false) (hone : Spec.one (l.drop i) = ((x : Int), (k : Int))) : Kx.fixedAt l i = if Kx.sign ((l.drop i).take k) = 0 then none else some ((l.drop i).take k, Kx.sign ((l.drop i).take k)) := by
  have hf : Kx.fixedWords.find? (fun w => Kx.pre w.1 l i) = none := List.find?_eq_none.2 fun y hy => by rw [hno y hy]; exact Bool.false_ne_true
  unfold Kx.fixedAt
  rw [hf, hone]
  rfl

set_option maxRecDepth 100000 in
set_option maxHeartbeats 8000000 in
theorem fixed_any (g : Nat) (s : ByteArray) (v : Value) (i : Nat) (fp : Int) (w : World) (hg : w.heap[g]? = some (acell s v i 0 fp)) (hi : i < s.size) (hs : s.size ≤ 100000) (hgl : Glob w) (hone : ¬ (Spec.one ((nb s).drop i)).2 = 0) :
    Calls Try.prog 27 #[.pointer (some ⟨g, 0, none⟩)] w (FixedTo (Kx.fixedAt (nb s) i) g s v i fp w) := by
  have hgl0 := blk_lt hg
  have HG := Lib.hid hg
  have HGL := Lib.hid hgl
  obtain ⟨R, hR⟩ : ∃ R, Kx.fixedAt (nb s) i = R := ⟨_, rfl⟩
  rw [hR]
  have HRR := Lib.hid hR
  clear hg hgl hR
  go_enter Try.func27, Try.ntmps27
  go_wp2
  go_loopw [18] (fun q wr => ∃ k : Nat, k ≤ 5 ∧ q = .int .i64 k ∧ Moves g s v i 0 fp w wr ∧ wr.heap[w.heap.size]? = some (.cells #[.int .i64 0, .string ⟨#[]⟩, .slice none 0 0, .slice none 0 0, .int .i64 0] 34 (0, 0)) ∧ wr.heap[w.heap.size + 1]? = some (.cells #[.string ⟨#[226, 142, 149, 73, 79]⟩, .int .i64 3, .string ⟨#[226, 141, 186]⟩, .int .i64 3, .string ⟨#[226, 141, 181]⟩, .int .i64 3, .string ⟨#[226, 136, 152, 46]⟩, .int .i64 4, .string ⟨#[226, 134, 144]⟩, .int .i64 7] 71 (0, 0)) ∧ ∀ x ∈ Kx.fixedWords.take k, Kx.pre x.1 (nb s) i = false) (fun q _ => 5 - (intOf q).toNat)
  case atStart =>
    refine ⟨0, by omega, rfl, moves_alloc (moves_alloc (moves_refl HG.out) _) _, blk_alloc (blk_new w _) _, ?_, fun x hx => by simp at hx⟩
    have := blk_new (w.alloc (.cells #[.int .i64 0, .string ⟨#[]⟩, .slice none 0 0, .slice none 0 0, .int .i64 0] 34)) (.cells #[.string ⟨#[226, 142, 149, 73, 79]⟩, .int .i64 3, .string ⟨#[226, 141, 186]⟩, .int .i64 3, .string ⟨#[226, 141, 181]⟩, .int .i64 3, .string ⟨#[226, 136, 152, 46]⟩, .int .i64 4, .string ⟨#[226, 134, 144]⟩, .int .i64 7] 71)
    rw [show (w.alloc (.cells #[.int .i64 0, .string ⟨#[]⟩, .slice none 0 0, .slice none 0 0, .int .i64 0] 34)).heap.size = w.heap.size + 1 by simp] at this
    exact this
  case round =>
    obtain ⟨k, hk, rfl, hm, h2, h3, hno⟩ := hrel
    have d0 := blk_cell hm.2 0
    have d1 := blk_cell hm.2 1
    have HM := Lib.hid hm
    have H2 := Lib.hid h2
    have H3 := Lib.hid h3
    by_cases hlt : k < 5
    · rcases (by omega : k = 0 ∨ k = 1 ∨ k = 2 ∨ k = 3 ∨ k = 4) with rfl | rfl | rfl | rfl | rfl
      · have hp1 := blk_cell H3.out 0
        have hp2 := blk_cell H3.out 1
        have hblk := blk_lt H3.out
        have hgr := blk_lt HM.out.2
        cases hp : Kx.pre [226, 142, 149, 73, 79] (nb s) i
        · have HP := Lib.hid (has_is s ⟨#[226, 142, 149, 73, 79]⟩ i (by omega) (b := false) hp)
          clear hm h2 h3
          go_wp2
          go_quiet ((go_at_call 13; exact Calls.quiet_of_same (HP.out _)))
          go_wp2
          go_roundw
          case rel =>
            refine ⟨1, by omega, by go_num, moves_drewN (moves_alloc HM.out _) _, blk_alloc H2.out _, blk_alloc H3.out _, fun x hx => ?_⟩
            rcases List.mem_append.1 (show x ∈ Kx.fixedWords.take 0 ++ [([226, 142, 149, 73, 79], 3)] from hx) with h | h
            · exact hno x h
            · rw [List.mem_singleton] at h
              rw [h]
              exact hp
          case measure => simp [intOf]
        · have HP := Lib.hid (has_is s ⟨#[226, 142, 149, 73, 79]⟩ i (by omega) (b := true) hp)
          have hRg : R = some ([226, 142, 149, 73, 79], 3) := by rw [← HRR.out]; exact fixed_find (k := 0) rfl hno hp
          subst hRg
          clear hm h2 h3
          go_wp2
          go_quiet ((go_at_call 13; exact Calls.quiet_of_same (HP.out _)))
          go_wp2
          have hm5 := moves_drewN (moves_alloc HM.out (.cells #[.string ⟨#[226, 142, 149, 73, 79]⟩, .int .i64 3] 71)) nq
          have h25 : ((wr.alloc (.cells #[.string ⟨#[226, 142, 149, 73, 79]⟩, .int .i64 3] 71)).drewN nq).heap[w.heap.size]? = _ := blk_alloc H2.out _
          have h55 : ((wr.alloc (.cells #[.string ⟨#[226, 142, 149, 73, 79]⟩, .int .i64 3] 71)).drewN nq).heap[wr.heap.size]? = _ := blk_new wr (.cells #[.string ⟨#[226, 142, 149, 73, 79]⟩, .int .i64 3] 71)
          generalize (wr.alloc (.cells #[.string ⟨#[226, 142, 149, 73, 79]⟩, .int .i64 3] 71)).drewN nq = w5 at hm5 h25 h55 ⊢
          have y0 := blk_cell h55 0
          have y1 := blk_cell h55 1
          have z1 := blk_cell hm5.2 1
          have x0 := blk_cell h25 0
          have x1 := blk_cell h25 1
          have x2 := blk_cell h25 2
          have x3 := blk_cell h25 3
          have x4 := blk_cell h25 4
          have xf0 := blk_frozen h25 0
          have xf1 := blk_frozen h25 1
          have xf2 := blk_frozen h25 2
          have xf3 := blk_frozen h25 3
          have xf4 := blk_frozen h25 4
          have HM5 := Lib.hid hm5
          have H25 := Lib.hid h25
          have hB5 := blk_lt H2.out
          clear hm5 h25 h55 d0 d1 HM H2 H3 hp1 hp2
          generalize wr.heap.size = B5 at *
          go_region
          all_goals
            go_wp2
            obtain ⟨q0, q1, q2, q3, q4⟩ := five_cells H25.out (.int .i64 3) (.string ⟨#[226, 142, 149, 73, 79]⟩) (.slice none 0 0) (.slice none 0 0) (.int .i64 (i : Int))
            unfold fiveSet at q0 q1 q2 q3 q4
            refine bodyPost_ret (v := .tuple #[.agg #[.int .i64 3, .string ⟨#[226, 142, 149, 73, 79]⟩, .slice none 0 0, .slice none 0 0, .int .i64 (i : Int)], .bool true]) (by simp [results, Try.results27, go_sem, q0, q1, q2, q3, q4]) rfl ?_
            exact ⟨rfl, moves_drew (five_moves HM5.out (Nat.le_refl _) hgl0 _ _ _ _ _)⟩
      · have hp1 := blk_cell H3.out 2
        have hp2 := blk_cell H3.out 3
        have hblk := blk_lt H3.out
        have hgr := blk_lt HM.out.2
        cases hp : Kx.pre [226, 141, 186] (nb s) i
        · have HP := Lib.hid (has_is s ⟨#[226, 141, 186]⟩ i (by omega) (b := false) hp)
          clear hm h2 h3
          go_wp2
          go_quiet ((go_at_call 13; exact Calls.quiet_of_same (HP.out _)))
          go_wp2
          go_roundw
          case rel =>
            refine ⟨2, by omega, by go_num, moves_drewN (moves_alloc HM.out _) _, blk_alloc H2.out _, blk_alloc H3.out _, fun x hx => ?_⟩
            rcases List.mem_append.1 (show x ∈ Kx.fixedWords.take 1 ++ [([226, 141, 186], 3)] from hx) with h | h
            · exact hno x h
            · rw [List.mem_singleton] at h
              rw [h]
              exact hp
          case measure => simp [intOf]
        · have HP := Lib.hid (has_is s ⟨#[226, 141, 186]⟩ i (by omega) (b := true) hp)
          have hRg : R = some ([226, 141, 186], 3) := by rw [← HRR.out]; exact fixed_find (k := 1) rfl hno hp
          subst hRg
          clear hm h2 h3
          go_wp2
          go_quiet ((go_at_call 13; exact Calls.quiet_of_same (HP.out _)))
          go_wp2
          have hm5 := moves_drewN (moves_alloc HM.out (.cells #[.string ⟨#[226, 141, 186]⟩, .int .i64 3] 71)) nq
          have h25 : ((wr.alloc (.cells #[.string ⟨#[226, 141, 186]⟩, .int .i64 3] 71)).drewN nq).heap[w.heap.size]? = _ := blk_alloc H2.out _
          have h55 : ((wr.alloc (.cells #[.string ⟨#[226, 141, 186]⟩, .int .i64 3] 71)).drewN nq).heap[wr.heap.size]? = _ := blk_new wr (.cells #[.string ⟨#[226, 141, 186]⟩, .int .i64 3] 71)
          generalize (wr.alloc (.cells #[.string ⟨#[226, 141, 186]⟩, .int .i64 3] 71)).drewN nq = w5 at hm5 h25 h55 ⊢
          have y0 := blk_cell h55 0
          have y1 := blk_cell h55 1
          have z1 := blk_cell hm5.2 1
          have x0 := blk_cell h25 0
          have x1 := blk_cell h25 1
          have x2 := blk_cell h25 2
          have x3 := blk_cell h25 3
          have x4 := blk_cell h25 4
          have xf0 := blk_frozen h25 0
          have xf1 := blk_frozen h25 1
          have xf2 := blk_frozen h25 2
          have xf3 := blk_frozen h25 3
          have xf4 := blk_frozen h25 4
          have HM5 := Lib.hid hm5
          have H25 := Lib.hid h25
          have hB5 := blk_lt H2.out
          clear hm5 h25 h55 d0 d1 HM H2 H3 hp1 hp2
          generalize wr.heap.size = B5 at *
          go_region
          all_goals
            go_wp2
            obtain ⟨q0, q1, q2, q3, q4⟩ := five_cells H25.out (.int .i64 3) (.string ⟨#[226, 141, 186]⟩) (.slice none 0 0) (.slice none 0 0) (.int .i64 (i : Int))
            unfold fiveSet at q0 q1 q2 q3 q4
            refine bodyPost_ret (v := .tuple #[.agg #[.int .i64 3, .string ⟨#[226, 141, 186]⟩, .slice none 0 0, .slice none 0 0, .int .i64 (i : Int)], .bool true]) (by simp [results, Try.results27, go_sem, q0, q1, q2, q3, q4]) rfl ?_
            exact ⟨rfl, moves_drew (five_moves HM5.out (Nat.le_refl _) hgl0 _ _ _ _ _)⟩
      · have hp1 := blk_cell H3.out 4
        have hp2 := blk_cell H3.out 5
        have hblk := blk_lt H3.out
        have hgr := blk_lt HM.out.2
        cases hp : Kx.pre [226, 141, 181] (nb s) i
        · have HP := Lib.hid (has_is s ⟨#[226, 141, 181]⟩ i (by omega) (b := false) hp)
          clear hm h2 h3
          go_wp2
          go_quiet ((go_at_call 13; exact Calls.quiet_of_same (HP.out _)))
          go_wp2
          go_roundw
          case rel =>
            refine ⟨3, by omega, by go_num, moves_drewN (moves_alloc HM.out _) _, blk_alloc H2.out _, blk_alloc H3.out _, fun x hx => ?_⟩
            rcases List.mem_append.1 (show x ∈ Kx.fixedWords.take 2 ++ [([226, 141, 181], 3)] from hx) with h | h
            · exact hno x h
            · rw [List.mem_singleton] at h
              rw [h]
              exact hp
          case measure => simp [intOf]
        · have HP := Lib.hid (has_is s ⟨#[226, 141, 181]⟩ i (by omega) (b := true) hp)
          have hRg : R = some ([226, 141, 181], 3) := by rw [← HRR.out]; exact fixed_find (k := 2) rfl hno hp
          subst hRg
          clear hm h2 h3
          go_wp2
          go_quiet ((go_at_call 13; exact Calls.quiet_of_same (HP.out _)))
          go_wp2
          have hm5 := moves_drewN (moves_alloc HM.out (.cells #[.string ⟨#[226, 141, 181]⟩, .int .i64 3] 71)) nq
          have h25 : ((wr.alloc (.cells #[.string ⟨#[226, 141, 181]⟩, .int .i64 3] 71)).drewN nq).heap[w.heap.size]? = _ := blk_alloc H2.out _
          have h55 : ((wr.alloc (.cells #[.string ⟨#[226, 141, 181]⟩, .int .i64 3] 71)).drewN nq).heap[wr.heap.size]? = _ := blk_new wr (.cells #[.string ⟨#[226, 141, 181]⟩, .int .i64 3] 71)
          generalize (wr.alloc (.cells #[.string ⟨#[226, 141, 181]⟩, .int .i64 3] 71)).drewN nq = w5 at hm5 h25 h55 ⊢
          have y0 := blk_cell h55 0
          have y1 := blk_cell h55 1
          have z1 := blk_cell hm5.2 1
          have x0 := blk_cell h25 0
          have x1 := blk_cell h25 1
          have x2 := blk_cell h25 2
          have x3 := blk_cell h25 3
          have x4 := blk_cell h25 4
          have xf0 := blk_frozen h25 0
          have xf1 := blk_frozen h25 1
          have xf2 := blk_frozen h25 2
          have xf3 := blk_frozen h25 3
          have xf4 := blk_frozen h25 4
          have HM5 := Lib.hid hm5
          have H25 := Lib.hid h25
          have hB5 := blk_lt H2.out
          clear hm5 h25 h55 d0 d1 HM H2 H3 hp1 hp2
          generalize wr.heap.size = B5 at *
          go_region
          all_goals
            go_wp2
            obtain ⟨q0, q1, q2, q3, q4⟩ := five_cells H25.out (.int .i64 3) (.string ⟨#[226, 141, 181]⟩) (.slice none 0 0) (.slice none 0 0) (.int .i64 (i : Int))
            unfold fiveSet at q0 q1 q2 q3 q4
            refine bodyPost_ret (v := .tuple #[.agg #[.int .i64 3, .string ⟨#[226, 141, 181]⟩, .slice none 0 0, .slice none 0 0, .int .i64 (i : Int)], .bool true]) (by simp [results, Try.results27, go_sem, q0, q1, q2, q3, q4]) rfl ?_
            exact ⟨rfl, moves_drew (five_moves HM5.out (Nat.le_refl _) hgl0 _ _ _ _ _)⟩
      · have hp1 := blk_cell H3.out 6
        have hp2 := blk_cell H3.out 7
        have hblk := blk_lt H3.out
        have hgr := blk_lt HM.out.2
        cases hp : Kx.pre [226, 136, 152, 46] (nb s) i
        · have HP := Lib.hid (has_is s ⟨#[226, 136, 152, 46]⟩ i (by omega) (b := false) hp)
          clear hm h2 h3
          go_wp2
          go_quiet ((go_at_call 13; exact Calls.quiet_of_same (HP.out _)))
          go_wp2
          go_roundw
          case rel =>
            refine ⟨4, by omega, by go_num, moves_drewN (moves_alloc HM.out _) _, blk_alloc H2.out _, blk_alloc H3.out _, fun x hx => ?_⟩
            rcases List.mem_append.1 (show x ∈ Kx.fixedWords.take 3 ++ [([226, 136, 152, 46], 4)] from hx) with h | h
            · exact hno x h
            · rw [List.mem_singleton] at h
              rw [h]
              exact hp
          case measure => simp [intOf]
        · have HP := Lib.hid (has_is s ⟨#[226, 136, 152, 46]⟩ i (by omega) (b := true) hp)
          have hRg : R = some ([226, 136, 152, 46], 4) := by rw [← HRR.out]; exact fixed_find (k := 3) rfl hno hp
          subst hRg
          clear hm h2 h3
          go_wp2
          go_quiet ((go_at_call 13; exact Calls.quiet_of_same (HP.out _)))
          go_wp2
          have hm5 := moves_drewN (moves_alloc HM.out (.cells #[.string ⟨#[226, 136, 152, 46]⟩, .int .i64 4] 71)) nq
          have h25 : ((wr.alloc (.cells #[.string ⟨#[226, 136, 152, 46]⟩, .int .i64 4] 71)).drewN nq).heap[w.heap.size]? = _ := blk_alloc H2.out _
          have h55 : ((wr.alloc (.cells #[.string ⟨#[226, 136, 152, 46]⟩, .int .i64 4] 71)).drewN nq).heap[wr.heap.size]? = _ := blk_new wr (.cells #[.string ⟨#[226, 136, 152, 46]⟩, .int .i64 4] 71)
          generalize (wr.alloc (.cells #[.string ⟨#[226, 136, 152, 46]⟩, .int .i64 4] 71)).drewN nq = w5 at hm5 h25 h55 ⊢
          have y0 := blk_cell h55 0
          have y1 := blk_cell h55 1
          have z1 := blk_cell hm5.2 1
          have x0 := blk_cell h25 0
          have x1 := blk_cell h25 1
          have x2 := blk_cell h25 2
          have x3 := blk_cell h25 3
          have x4 := blk_cell h25 4
          have xf0 := blk_frozen h25 0
          have xf1 := blk_frozen h25 1
          have xf2 := blk_frozen h25 2
          have xf3 := blk_frozen h25 3
          have xf4 := blk_frozen h25 4
          have HM5 := Lib.hid hm5
          have H25 := Lib.hid h25
          have hB5 := blk_lt H2.out
          clear hm5 h25 h55 d0 d1 HM H2 H3 hp1 hp2
          generalize wr.heap.size = B5 at *
          go_region
          all_goals
            go_wp2
            obtain ⟨q0, q1, q2, q3, q4⟩ := five_cells H25.out (.int .i64 4) (.string ⟨#[226, 136, 152, 46]⟩) (.slice none 0 0) (.slice none 0 0) (.int .i64 (i : Int))
            unfold fiveSet at q0 q1 q2 q3 q4
            refine bodyPost_ret (v := .tuple #[.agg #[.int .i64 4, .string ⟨#[226, 136, 152, 46]⟩, .slice none 0 0, .slice none 0 0, .int .i64 (i : Int)], .bool true]) (by simp [results, Try.results27, go_sem, q0, q1, q2, q3, q4]) rfl ?_
            exact ⟨rfl, moves_drew (five_moves HM5.out (Nat.le_refl _) hgl0 _ _ _ _ _)⟩
      · have hp1 := blk_cell H3.out 8
        have hp2 := blk_cell H3.out 9
        have hblk := blk_lt H3.out
        have hgr := blk_lt HM.out.2
        cases hp : Kx.pre [226, 134, 144] (nb s) i
        · have HP := Lib.hid (has_is s ⟨#[226, 134, 144]⟩ i (by omega) (b := false) hp)
          clear hm h2 h3
          go_wp2
          go_quiet ((go_at_call 13; exact Calls.quiet_of_same (HP.out _)))
          go_wp2
          go_roundw
          case rel =>
            refine ⟨5, by omega, by go_num, moves_drewN (moves_alloc HM.out _) _, blk_alloc H2.out _, blk_alloc H3.out _, fun x hx => ?_⟩
            rcases List.mem_append.1 (show x ∈ Kx.fixedWords.take 4 ++ [([226, 134, 144], 7)] from hx) with h | h
            · exact hno x h
            · rw [List.mem_singleton] at h
              rw [h]
              exact hp
          case measure => simp [intOf]
        · have HP := Lib.hid (has_is s ⟨#[226, 134, 144]⟩ i (by omega) (b := true) hp)
          have hRg : R = some ([226, 134, 144], 7) := by rw [← HRR.out]; exact fixed_find (k := 4) rfl hno hp
          subst hRg
          clear hm h2 h3
          go_wp2
          go_quiet ((go_at_call 13; exact Calls.quiet_of_same (HP.out _)))
          go_wp2
          have hm5 := moves_drewN (moves_alloc HM.out (.cells #[.string ⟨#[226, 134, 144]⟩, .int .i64 7] 71)) nq
          have h25 : ((wr.alloc (.cells #[.string ⟨#[226, 134, 144]⟩, .int .i64 7] 71)).drewN nq).heap[w.heap.size]? = _ := blk_alloc H2.out _
          have h55 : ((wr.alloc (.cells #[.string ⟨#[226, 134, 144]⟩, .int .i64 7] 71)).drewN nq).heap[wr.heap.size]? = _ := blk_new wr (.cells #[.string ⟨#[226, 134, 144]⟩, .int .i64 7] 71)
          generalize (wr.alloc (.cells #[.string ⟨#[226, 134, 144]⟩, .int .i64 7] 71)).drewN nq = w5 at hm5 h25 h55 ⊢
          have y0 := blk_cell h55 0
          have y1 := blk_cell h55 1
          have z1 := blk_cell hm5.2 1
          have x0 := blk_cell h25 0
          have x1 := blk_cell h25 1
          have x2 := blk_cell h25 2
          have x3 := blk_cell h25 3
          have x4 := blk_cell h25 4
          have xf0 := blk_frozen h25 0
          have xf1 := blk_frozen h25 1
          have xf2 := blk_frozen h25 2
          have xf3 := blk_frozen h25 3
          have xf4 := blk_frozen h25 4
          have HM5 := Lib.hid hm5
          have H25 := Lib.hid h25
          have hB5 := blk_lt H2.out
          clear hm5 h25 h55 d0 d1 HM H2 H3 hp1 hp2
          generalize wr.heap.size = B5 at *
          go_region
          all_goals
            go_wp2
            obtain ⟨q0, q1, q2, q3, q4⟩ := five_cells H25.out (.int .i64 7) (.string ⟨#[226, 134, 144]⟩) (.slice none 0 0) (.slice none 0 0) (.int .i64 (i : Int))
            unfold fiveSet at q0 q1 q2 q3 q4
            refine bodyPost_ret (v := .tuple #[.agg #[.int .i64 7, .string ⟨#[226, 134, 144]⟩, .slice none 0 0, .slice none 0 0, .int .i64 (i : Int)], .bool true]) (by simp [results, Try.results27, go_sem, q0, q1, q2, q3, q4]) rfl ?_
            exact ⟨rfl, moves_drew (five_moves HM5.out (Nat.le_refl _) hgl0 _ _ _ _ _)⟩
    · obtain rfl : k = 5 := by omega
      have hnl := nb_length s
      have hsub := extract_end s i (by omega)
      obtain ⟨sub, hsb⟩ : ∃ sub, strOfNums ((nb s).drop i) = sub := ⟨_, rfl⟩
      rw [hsb] at hsub
      have hsz : sub.size = s.size - i := by rw [← hsb, strOfNums_size, List.length_drop, hnl]
      have hnbs : nb sub = (nb s).drop i := by rw [← hsb]; exact nb_str _ (fun x hx => nb_bytes s x (List.mem_of_mem_drop hx))
      have hcv := fun W => (conv_all sub (by omega) W).1
      rcases one_cases (l := nb s) (p := i) (by omega) (nb_bytes s) with hon | ⟨x, kk, hon, hk1, hk4, hpk, hx⟩
      · rw [hon] at hone; exact absurd rfl hone
      have OT := Lib.hid (one_text s i sub wr x kk hs hnbs hon)
      have HON := Lib.hid hon
      have hex := extract_nb s i kk
      have hwr : IntKind.i64.wrap ((i : Int) + (kk : Int)) = (i : Int) + (kk : Int) := wraps_i64 _ (by omega) (by omega)
      have hKs : i + kk ≤ s.size := by omega
      have sd1 : decide (s.size < i + kk) = false := decide_eq_false (by omega)
      have sd2 : decide ((s.size : Int) < (i : Int) + (kk : Int)) = false := decide_eq_false (by omega)
      have sd3 : decide ((i : Int) + (kk : Int) < (i : Int)) = false := decide_eq_false (by omega)
      have sd4 : decide ((i : Int) ≤ (i : Int) + (kk : Int)) = true := decide_eq_true (by omega)
      have sd5 : decide ((i : Int) + (kk : Int) ≤ (s.size : Int)) = true := decide_eq_true (by omega)
      have sd6 : (i : Int) ≤ (i : Int) + (kk : Int) := by omega
      have sd7 : (i : Int) + (kk : Int) ≤ (s.size : Int) := by omega
      have sd8 : (0 : Int) ≤ (i : Int) := by omega
      have sd9 : ((i : Int) + (kk : Int)).toNat = i + kk := by omega
      obtain ⟨st, hst⟩ : ∃ st, strOfNums (((nb s).drop i).take kk) = st := ⟨_, rfl⟩
      rw [hst] at hex
      have HST := Lib.hid hst
      have HNO := Lib.hid hno
      clear hsb hsz hnbs hon hone hm h2 h3 hst hno hpk
      go_wp2
      go_region_with (go_at_call 19; refine (OT.out _).mono ?_; rintro e w2 ⟨rfl, hb2⟩)
      all_goals
        have HM2 := Lib.hid (moves_below HM.out hb2)
        have H22 := Lib.hid (blk_below H2.out hb2 (blk_lt H2.out))
        have e0 := blk_cell HM2.out.2 0
        have e1 := blk_cell HM2.out.2 1
        clear hb2 d0 d1 OT hcv
        have hmm := @run_makeMap Try.prog
        go_wp2
        go_quiet (fail)
        have hm3 := moves_drewN HM2.out nq
        have h23 : (w2.drewN nq).heap[w.heap.size]? = _ := H22.out
        generalize w2.drewN nq = w3 at hm3 h23 ⊢
        have HM3 := Lib.hid hm3
        have H23 := Lib.hid h23
        clear hm3 h23 e0 e1 HM2 H22
        have p1 : (Instr.mapUpdate 73 (.map (some w3.heap.size)) (.int .i64 4) (.string ⟨#[43, 45, 195, 151, 124, 126, 226, 141, 179, 226, 141, 180, 226, 137, 162, 44, 226, 138, 150, 226, 140, 189, 226, 141, 137, 226, 141, 139, 226, 141, 146, 226, 136, 170, 226, 138, 130, 226, 138, 131, 195, 183, 226, 140, 138, 226, 140, 136, 61, 226, 137, 160, 60, 62, 226, 137, 164, 226, 137, 165, 226, 134, 145, 226, 134, 147, 226, 141, 170, 226, 136, 138, 226, 140, 191, 47, 92, 226, 141, 128, 226, 140, 183, 226, 141, 168, 226, 141, 163, 226, 139, 132]⟩)).run Try.prog (w3.alloc (.map #[] 0)) = .ok () (w3.alloc (.map #[{ key := .int .i64 4, val := .string ⟨#[43, 45, 195, 151, 124, 126, 226, 141, 179, 226, 141, 180, 226, 137, 162, 44, 226, 138, 150, 226, 140, 189, 226, 141, 137, 226, 141, 139, 226, 141, 146, 226, 136, 170, 226, 138, 130, 226, 138, 131, 195, 183, 226, 140, 138, 226, 140, 136, 61, 226, 137, 160, 60, 62, 226, 137, 164, 226, 137, 165, 226, 134, 145, 226, 134, 147, 226, 141, 170, 226, 136, 138, 226, 140, 191, 47, 92, 226, 141, 128, 226, 140, 183, 226, 141, 168, 226, 141, 163, 226, 139, 132]⟩, born := 0 }] 1)) := put_next w3 #[] 0 4 _ rfl
        have p2 : (Instr.mapUpdate 73 (.map (some w3.heap.size)) (.int .i64 5) (.string ⟨#[40, 123, 91]⟩)).run Try.prog (w3.alloc (.map #[{ key := .int .i64 4, val := .string ⟨#[43, 45, 195, 151, 124, 126, 226, 141, 179, 226, 141, 180, 226, 137, 162, 44, 226, 138, 150, 226, 140, 189, 226, 141, 137, 226, 141, 139, 226, 141, 146, 226, 136, 170, 226, 138, 130, 226, 138, 131, 195, 183, 226, 140, 138, 226, 140, 136, 61, 226, 137, 160, 60, 62, 226, 137, 164, 226, 137, 165, 226, 134, 145, 226, 134, 147, 226, 141, 170, 226, 136, 138, 226, 140, 191, 47, 92, 226, 141, 128, 226, 140, 183, 226, 141, 168, 226, 141, 163, 226, 139, 132]⟩, born := 0 }] 1)) = .ok () (w3.alloc (.map #[{ key := .int .i64 4, val := .string ⟨#[43, 45, 195, 151, 124, 126, 226, 141, 179, 226, 141, 180, 226, 137, 162, 44, 226, 138, 150, 226, 140, 189, 226, 141, 137, 226, 141, 139, 226, 141, 146, 226, 136, 170, 226, 138, 130, 226, 138, 131, 195, 183, 226, 140, 138, 226, 140, 136, 61, 226, 137, 160, 60, 62, 226, 137, 164, 226, 137, 165, 226, 134, 145, 226, 134, 147, 226, 141, 170, 226, 136, 138, 226, 140, 191, 47, 92, 226, 141, 128, 226, 140, 183, 226, 141, 168, 226, 141, 163, 226, 139, 132]⟩, born := 0 }, { key := .int .i64 5, val := .string ⟨#[40, 123, 91]⟩, born := 1 }] 2)) := put_next w3 _ 1 5 _ rfl
        have p3 : (Instr.mapUpdate 73 (.map (some w3.heap.size)) (.int .i64 6) (.string ⟨#[41, 125, 93]⟩)).run Try.prog (w3.alloc (.map #[{ key := .int .i64 4, val := .string ⟨#[43, 45, 195, 151, 124, 126, 226, 141, 179, 226, 141, 180, 226, 137, 162, 44, 226, 138, 150, 226, 140, 189, 226, 141, 137, 226, 141, 139, 226, 141, 146, 226, 136, 170, 226, 138, 130, 226, 138, 131, 195, 183, 226, 140, 138, 226, 140, 136, 61, 226, 137, 160, 60, 62, 226, 137, 164, 226, 137, 165, 226, 134, 145, 226, 134, 147, 226, 141, 170, 226, 136, 138, 226, 140, 191, 47, 92, 226, 141, 128, 226, 140, 183, 226, 141, 168, 226, 141, 163, 226, 139, 132]⟩, born := 0 }, { key := .int .i64 5, val := .string ⟨#[40, 123, 91]⟩, born := 1 }] 2)) = .ok () (w3.alloc (.map mapE 3)) := put_next w3 _ 2 6 _ rfl
        have hrg := run_range_map (P := Try.prog) (w3.alloc (.map mapE 3)) 73 3 9 w3.heap.size mapE 3 Try.underlying73 (heap_alloc_new w3 _)
        have hm4 := moves_alloc HM3.out (.map mapE 3)
        have h24 := blk_alloc H23.out (.map mapE 3)
        have h44 := blk_new w3 (.map mapE 3)
        have hs4 : (w3.alloc (.map mapE 3)).heap.size = w3.heap.size + 1 := by simp
        have HM4 := Lib.hid hm4
        have H24 := Lib.hid h24
        have H44 := Lib.hid h44
        have HS4 := Lib.hid hs4
        clear hm4 h24 h44 hs4
        go_wp2
        go_loopw [] (fun wr => ∃ (w1 : World) (seen : Array Nat), w1.heap.size = w3.heap.size + 1 ∧ Moves g s v i 0 fp w w1 ∧ w1.heap[w.heap.size]? = some (.cells #[.int .i64 0, .string ⟨#[]⟩, .slice none 0 0, .slice none 0 0, .int .i64 0] 34 (0, 0)) ∧ w1.heap[w3.heap.size]? = some (.map mapE 3) ∧ wr = w1.alloc (.mapIter (some w3.heap.size) 3 seen 3) ∧ ∀ x ∈ mapE.toList, seen.contains x.born = true → ∀ t, x.val = .string t → Kx.has (nb t) (nb st) = false) (fun wr => (leftOf mapE (wr.iterSeen (w3.heap.size + 1))).size)
        case atStart =>
          exact ⟨_, #[], HS4.out, HM4.out, H24.out, H44.out, rfl, fun x _ h => by simp at h⟩
        case round =>
          obtain ⟨w1, seen, hz1, hm1, h21, h31, hwr, hno1⟩ := hrel
          have law := run_next_map (P := Try.prog) w1 0 w3.heap.size 3 3 seen mapE 3 h31 mapE_born (Nat.le_refl _)
          rw [hz1, ← hwr] at law
          have hnst : nb st = ((nb s).drop i).take kk := by rw [← HST.out]; exact nb_str _ (fun x hx => nb_bytes s x (List.mem_of_mem_drop (List.mem_of_mem_take hx)))
          have hne : ((nb s).drop i).take kk ≠ [] := by
            intro h
            have := congrArg List.length h
            rw [List.length_take, List.length_drop, nb_length, List.length_nil] at this
            omega
          have HNST := Lib.hid hnst
          have HNE := Lib.hid hne
          clear hnst hne
          rcases law with ⟨h0, hrun⟩ | ⟨en, he, w4, hal, hrun⟩
          · have hnx : ∀ ty, (Instr.next (.pointer (some ⟨w3.heap.size + 1, 0, none⟩)) false ty).run Try.prog wr = _ := fun _ => hrun
            have hRn : R = none := by
              rw [← HRR.out, fixed_sign HNO.out HON.out, if_pos]
              refine Kx.sign_none fun x hx => ?_
              obtain ⟨e', he', t', hv', ht'⟩ := mapE_all x hx
              rw [← ht', ← HNST.out]
              exact hno1 e' he' (all_seen mapE seen h0 e' he') t' hv'
            subst hRn
            have h2r := blk_alloc h21 (.mapIter (some w3.heap.size) 3 seen 3)
            rw [← hwr] at h2r
            have H2R := Lib.hid h2r
            clear h2r
            have HMR := Lib.hid (show Moves g s v i 0 fp w wr by rw [hwr]; exact moves_alloc hm1 _)
            clear hm1 h21 h31 hno1 hwr h0 hrun
            have x0 := blk_cell H2R.out 0
            have xf0 := blk_frozen H2R.out 0
            have x1 := blk_cell H2R.out 1
            have xf1 := blk_frozen H2R.out 1
            have x2 := blk_cell H2R.out 2
            have xf2 := blk_frozen H2R.out 2
            have x3 := blk_cell H2R.out 3
            have xf3 := blk_frozen H2R.out 3
            have x4 := blk_cell H2R.out 4
            have xf4 := blk_frozen H2R.out 4
            go_wp2
            obtain ⟨q0, q1, q2, q3, q4⟩ := five_cells H2R.out (.int .i64 0) (.string ⟨#[]⟩) (.slice none 0 0) (.slice none 0 0) (.int .i64 0)
            unfold fiveSet at q0 q1 q2 q3 q4
            refine bodyPost_ret (v := .tuple #[.agg #[.int .i64 0, .string ⟨#[]⟩, .slice none 0 0, .slice none 0 0, .int .i64 0], .bool false]) (by simp [results, Try.results27, go_sem, q0, q1, q2, q3, q4]) rfl ?_
            exact ⟨rfl, five_moves HMR.out (Nat.le_refl _) hgl0 _ _ _ _ _⟩
          · obtain ⟨mk, mt, hkey, hval, hts, hgrp⟩ := mapE_val en (mem_left he).1
            rw [hkey, hval] at hrun
            have hsz4 : w4.heap.size = w3.heap.size + 1 := by rw [hal.1]; exact hz1
            have h34 : w4.heap[w3.heap.size]? = some (.map mapE 3) := by rw [hal.1]; exact h31
            have hen := run_entry_map (P := Try.prog) w4 w3.heap.size 3 seen mapE 3 en h34 (mem_left he).1 mapE_nodup
            rw [hsz4, hkey, hval] at hen
            have htp : w4.tape = w1.tape := by
              have := next_tape hrun
              rw [hwr] at this
              exact this
            have hm4 := moves_like hm1 hal htp
            have h24 := h21
            rw [← hal.1] at h24
            obtain ⟨W6, hW6⟩ : ∃ W6, w4.alloc (.mapIter (some w3.heap.size) 3 (seen.push en.born) 3) = W6 := ⟨_, rfl⟩
            rw [hW6] at hrun hen
            have hnx : ∀ ty, (Instr.next (.pointer (some ⟨w3.heap.size + 1, 0, none⟩)) false ty).run Try.prog wr = _ := fun _ => hrun
            have HM6 := Lib.hid (show Moves g s v i 0 fp w W6 by rw [← hW6]; exact moves_alloc hm4 _)
            have h26 := blk_alloc h24 (.mapIter (some w3.heap.size) 3 (seen.push en.born) 3)
            rw [hW6] at h26
            have H26 := Lib.hid h26
            clear h26
            have HG6 := Lib.hid (HGL.out.moves HG.out HM6.out)
            have HW6 := Lib.hid hW6
            have HM4' := Lib.hid hm4
            have H24' := Lib.hid h24
            have H34 := Lib.hid h34
            have HSZ4 := Lib.hid hsz4
            have HVAL := Lib.hid hval
            have HEN := Lib.hid he
            have HNO1 := Lib.hid hno1
            have HGRP := Lib.hid hgrp
            have HWR := Lib.hid hwr
            have HZ1 := Lib.hid hz1
            clear hm1 h21 h31 hno1 hwr hrun hal htp hm4 h24 h34 hsz4 hval hkey he hgrp hW6 hz1
            have d1 := blk_cell HM6.out.2 1
            cases hh : Kx.has (nb mt) (nb st)
            · have CT := Lib.hid (contains_is mt st W6 hts HG6.out hh)
              have HH := Lib.hid hh
              clear hh
              go_wp2_with fail
              refine CT.out.mono ?_
              rintro e w7 ⟨rfl, rfl⟩
              go_wp2
              go_roundw
              case rel =>
                refine ⟨w4, seen.push en.born, HSZ4.out, HM4'.out, H24'.out, H34.out, HW6.out.symm, fun x hx hc t' ht' => ?_⟩
                rw [contains_push] at hc
                rcases Bool.or_eq_true _ _ ▸ hc with h1 | h1
                · exact HNO1.out x hx h1 t' ht'
                · have : x = en := born_inj mapE_nodup hx (mem_left HEN.out).1 (beq_iff_eq.1 h1)
                  subst this
                  rw [HVAL.out] at ht'
                  cases ht'
                  exact HH.out
              case measure =>
                rw [← HW6.out, HWR.out, ← HZ1.out, World.iterSeen_alloc, HZ1.out, ← HSZ4.out, World.iterSeen_alloc]
                exact left_shrinks mapE seen en HEN.out
            · have CT := Lib.hid (contains_is mt st W6 hts HG6.out hh)
              have hRs : R = some (((nb s).drop i).take kk, mk) := by
                rw [HNST.out] at hh
                rw [← HRR.out, fixed_sign HNO.out HON.out, if_neg (Kx.sign_pos HNE.out HGRP.out hh), Kx.sign_of HNE.out HGRP.out hh]
              clear hh
              subst hRs
              go_wp2_with fail
              refine CT.out.mono ?_
              rintro e w7 ⟨rfl, rfl⟩
              clear CT
              have x0 := blk_cell H26.out 0
              have xf0 := blk_frozen H26.out 0
              have x1 := blk_cell H26.out 1
              have xf1 := blk_frozen H26.out 1
              have x2 := blk_cell H26.out 2
              have xf2 := blk_frozen H26.out 2
              have x3 := blk_cell H26.out 3
              have xf3 := blk_frozen H26.out 3
              have x4 := blk_cell H26.out 4
              have xf4 := blk_frozen H26.out 4
              go_wp2
              obtain ⟨q0, q1, q2, q3, q4⟩ := five_cells H26.out (.int .i64 mk) (.string st) (.slice none 0 0) (.slice none 0 0) (.int .i64 (i : Int))
              unfold fiveSet at q0 q1 q2 q3 q4
              refine bodyPost_ret (v := .tuple #[.agg #[.int .i64 mk, .string st, .slice none 0 0, .slice none 0 0, .int .i64 (i : Int)], .bool true]) (by simp [results, Try.results27, go_sem, q0, q1, q2, q3, q4]) rfl ?_
              exact ⟨by dsimp only; rw [HST.out], five_moves HM6.out (Nat.le_refl _) hgl0 _ _ _ _ _⟩
end Go.Proofs.Ytiboikbccmfedaa
