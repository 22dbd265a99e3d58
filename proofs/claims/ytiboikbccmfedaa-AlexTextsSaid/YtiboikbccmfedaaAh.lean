/- Contract of the lexer's text. Conditions: the lexer's block reads in memory; its place lies within the text. -/
import Derived.Test.YtiboikbccmfedaaAg
import Derived.Lib.ConvBytes
namespace Go.Proofs.Ytiboikbccmfedaa
open Go.RowKit

theorem one_cases {l : List Int} {p : Nat} (hp : p < l.length) (hb : Spec.Bytes l) :
    Spec.one (l.drop p) = (0, 0) ∨ ∃ x k : Nat, Spec.one (l.drop p) = ((x : Int), (k : Int)) ∧ 1 ≤ k ∧ k ≤ 4 ∧ p + k ≤ l.length ∧ x < 1114112 := by
  have hbd : Spec.Bytes (l.drop p) := fun x hx => hb x (List.mem_of_mem_drop hx)
  have hsp := Spec.one_spec _ hbd
  generalize hq : Spec.one (l.drop p) = q at hsp ⊢
  clear hq
  rcases hsp with ⟨h1, h2, r, h3⟩ | ⟨h1, h2⟩
  · right
    have hl : 1 ≤ (Spec.enc q.1).length ∧ (Spec.enc q.1).length ≤ 4 := by unfold Spec.enc; split <;> (try split) <;> (try split) <;> simp
    have hx := Spec.good_iff.1 h1
    have hlen : l.length - p = (Spec.enc q.1).length + r.length := by rw [← List.length_drop, h3, List.length_append]
    refine ⟨q.1.toNat, (Spec.enc q.1).length, ?_, hl.1, hl.2, by omega, by omega⟩
    rw [Int.toNat_of_nonneg (by omega), ← h2]
  · exact .inl h1

theorem conv_all (s : ByteArray) (hs : s.size ≤ 1000000) (W : World) : (convert 9 39 (.string s)).run Try.prog W = .ok (.slice (some ⟨W.heap.size, 0, none⟩) s.size (grownCap W s.size 0 5)) (Lib.bytesWorld W 5 s) ∧ RowAt .u8 (Lib.bytesWorld W 5 s) (some ⟨W.heap.size, 0, none⟩) (nb s) ∧ Below W.heap.size W (Lib.bytesWorld W 5 s) ∧ s.size ≤ grownCap W s.size 0 5 := by
  refine ⟨Lib.run_convert_string_bytes W 9 39 5 s Try.underlying9 Try.underlying39 Try.underlying5, ⟨by rw [nb_length]; omega, fun _ => ⟨_, _, rfl, fun j hj => ?_⟩⟩, ?_, grownCap_ge _ _ _ _⟩
  · rw [nb_length] at hj
    rw [Nat.zero_add, Lib.bytesWorld_cell W 5 s j hj, nb_getD s j hj]
    have h2 : j < s.data.toList.length := by rw [Array.length_toList]; exact hj
    rw [List.getD_eq_getElem?_getD, List.getElem?_eq_getElem h2]
    rfl
  · refine ⟨rfl, rfl, rfl, ?_, fun k hk => Lib.bytesWorld_at_old W 5 s k hk⟩
    rw [Lib.bytesWorld_size]; omega
def TwoTo (x k : Int) (w : World) (e : Ending) (w' : World) : Prop := e = .returned (.tuple #[.int .i64 x, .int .i64 k]) ∧ Below w.heap.size w w'
/-- the sign at a place, where the rest of the text was made bytes -/
theorem one_text (s : ByteArray) (at_ : Nat) (sub : ByteArray) (wr : World) (x k : Int) (hs : s.size ≤ 100000) (hsub : nb sub = (nb s).drop at_) (h1 : Spec.one ((nb s).drop at_) = (x, k)) (n : Nat) :
    Calls Try.prog 19 #[.slice (some ⟨wr.heap.size, 0, none⟩) sub.size (grownCap (wr.drewN n) sub.size 0 5)] (Lib.bytesWorld (wr.drewN n) 5 sub) (TwoTo x k wr) := by
  have hsz : sub.size ≤ 1000000 := by rw [← nb_length, hsub, List.length_drop, nb_length]; omega
  obtain ⟨_, hrow, hbel, hcap⟩ := conv_all sub hsz (wr.drewN n)
  refine (one_any _ _ _ (nb sub) _ hrow (nb_length sub) hcap (nb_bytes sub)).mono ?_
  rintro e w' ⟨rfl, hb⟩
  rw [hsub, h1]
  exact ⟨rfl, below_then (below_then (below_drewN (Below.refl _ wr) n) (Nat.le_refl _) hbel) (Nat.le_trans (Nat.le_refl _) hbel.size) hb⟩


/-- a text as a word -/
def textWord (i : Nat) : Kx.Text → Kx.Word
  | .bad e j => .bad e j
  | .good xs j => .good ⟨2, [], Kx.litText xs, i⟩ j
theorem byte_next (g : Nat) (s : ByteArray) (v : Value) (i : Nat) (er fp : Int) (w : World) (hg : w.heap[g]? = some (acell s v i er fp)) (hi : i ≤ 100000) : Calls Try.prog 21 #[.pointer (some ⟨g, 0, none⟩), .int .i64 1] w (PeekTo (Kx.gt (nb s) (i + 1)) w) := byte_at g s v i er fp 1 (i + 1) w hg (by omega) (by omega)

set_option maxRecDepth 100000 in
set_option maxHeartbeats 8000000 in
theorem text_lex (g : Nat) (s : ByteArray) (v : Value) (i : Nat) (fp : Int) (w : World) (hg : w.heap[g]? = some (acell s v i 0 fp)) (hi : i < s.size) (hs : s.size ≤ 100000) :
    Calls Try.prog 24 #[.pointer (some ⟨g, 0, none⟩)] w (WordIs (textWord i (Kx.textAt ((nb s).length + 1) (nb s) i (i + 1) [])) g s v fp w) := by
  obtain ⟨i2, hi2, hz2, hs2, hb2⟩ := info_parts info2
  have hgl := blk_lt hg
  have hnl := nb_length s
  have HG := Lib.hid hg
  obtain ⟨R, hR⟩ : ∃ R, Kx.textAt ((nb s).length + 1) (nb s) i (i + 1) [] = R := ⟨_, rfl⟩
  rw [hR]
  have HRR := Lib.hid hR
  have c1 := blk_cell hg 1
  have cf := blk_frozen hg 1
  clear hg hR
  have hgl1 : g < w.heap.size + 1 := by omega
  go_enter Try.func24, Try.ntmps24
  go_wp2
  go_loopg [4] ((nb s).length + 1) (fun gk u wr => ∃ (at_ : Nat) (acc : List Int), at_ ≤ s.size ∧ s.size < at_ + gk ∧ acc.length ≤ at_ ∧ Kx.textAt gk (nb s) i at_ acc = R ∧ Moves g s v at_ 0 fp w wr ∧ wr.heap[w.heap.size]? = some (.cells #[.int .i64 0, .string ⟨#[]⟩, .slice none 0 0, .slice none 0 0, .int .i64 0] 34 (0, 0)) ∧ wr.heap[w.heap.size + 1]? = some (.cells #[.int .i64 2, .string ⟨#[]⟩, .slice none 0 0, .slice none 0 0, .int .i64 (i : Int)] 34 (0, 0)) ∧ wr.ownsRow (w.heap.size + 2) 2 1 u acc.length (nums .i64 acc))
  case atStart =>
    refine ⟨i + 1, [], by omega, by omega, Nat.zero_le _, HRR.out, ?_, ?_, ?_, World.ownsRow_nil _ _ _ _⟩
    · exact moves_alloc (moves_alloc (moves_set (moves_refl HG.out) (i + 1)) _) _
    · have := blk_alloc (blk_new (w.setCell ⟨g, 1, none⟩ (.int .i64 ((i + 1 : Nat) : Int))) (Obj.cells #[.int .i64 0, .string ⟨#[]⟩, .slice none 0 0, .slice none 0 0, .int .i64 0] 34)) (Obj.cells #[.int .i64 2, .string ⟨#[]⟩, .slice none 0 0, .slice none 0 0, .int .i64 (i : Int)] 34)
      simpa [World.setCell] using this
    · have := blk_new ((w.setCell ⟨g, 1, none⟩ (.int .i64 ((i + 1 : Nat) : Int))).alloc (Obj.cells #[.int .i64 0, .string ⟨#[]⟩, .slice none 0 0, .slice none 0 0, .int .i64 0] 34)) (Obj.cells #[.int .i64 2, .string ⟨#[]⟩, .slice none 0 0, .slice none 0 0, .int .i64 (i : Int)] 34)
      simpa [World.setCell] using this
  case round =>
    obtain ⟨at_, acc, hat, hf, hacc, hM, hm, h2, h3, hown⟩ := hrel
    obtain ⟨f, rfl⟩ : ∃ f, gk = f + 1 := ⟨gk - 1, by omega⟩
    obtain ⟨uA, uc, rfl, hvc⟩ := own_slice hown
    have d0 := blk_cell hm.2 0
    have d1 := blk_cell hm.2 1
    have HM := Lib.hid hM
    have HMV := Lib.hid hm
    have H2 := Lib.hid h2
    have H3 := Lib.hid h3
    have HOWN := Lib.hid hown
    clear hM hm h2 h3 hown c1 cf
    by_cases hin : at_ < s.size
    · have hdn : decide (s.size ≤ at_) = false := decide_eq_false (by omega)
      have hsub := extract_end s at_ hat
      obtain ⟨sub, hsb⟩ : ∃ sub, strOfNums ((nb s).drop at_) = sub := ⟨_, rfl⟩
      rw [hsb] at hsub
      have hsz : sub.size = s.size - at_ := by rw [← hsb, strOfNums_size, List.length_drop, hnl]
      have hnbs : nb sub = (nb s).drop at_ := by rw [← hsb]; exact nb_str _ (fun x hx => nb_bytes s x (List.mem_of_mem_drop hx))
      have hcv := fun W => (conv_all sub (by omega) W).1
      rcases one_cases (l := nb s) (p := at_) (by omega) (nb_bytes s) with hone | ⟨x, k, hone, hk1, hk4, hpk, hx⟩
      · have OT := Lib.hid (one_text s at_ sub wr 0 0 hs hnbs hone)
        have hRb : R = .bad 3 at_ := by rw [← HM.out, Kx.textAt, if_pos (by omega), hone]; rfl
        subst hRb
        clear hsb hsz hnbs hone HM
        go_wp2
        go_quiet (fail)
        go_wp2
        go_region_with (go_at_call 19; refine (OT.out _).mono ?_; rintro e w2 ⟨rfl, hb2⟩)
        all_goals
          have HM2 := Lib.hid (moves_below HMV.out hb2)
          have H22 := Lib.hid (blk_below H2.out hb2 (blk_lt H2.out))
          have H32 := Lib.hid (blk_below H3.out hb2 (blk_lt H3.out))
          have cl1 := blk_cell HM2.out.2 1
          clear hb2 d0 d1
          go_wp2_with fail
          refine (fail_any g s v at_ fp 3 (at_ : Int) _ HM2.out.2).mono ?_
          rintro e w9 ⟨rfl, hm9⟩
          have H2X := Lib.hid (blk_grown H22.out hm9.1 (by intro e; cases e; omega))
          have H3X := Lib.hid (blk_grown H32.out hm9.1 (by intro e; cases e; omega))
          have HMX := Lib.hid (moves_step HM2.out hm9)
          clear hm9 cl1
          have p0 := blk_cell H3X.out 0
          have p1 := blk_cell H3X.out 1
          have p2 := blk_cell H3X.out 2
          have p3 := blk_cell H3X.out 3
          have p4 := blk_cell H3X.out 4
          have pf2 := blk_frozen H3X.out 2
          have pf3 := blk_frozen H3X.out 3
          have r0 := blk_cell H2X.out 0
          have r1 := blk_cell H2X.out 1
          have r2 := blk_cell H2X.out 2
          have r3 := blk_cell H2X.out 3
          have r4 := blk_cell H2X.out 4
          have rf0 := blk_frozen H2X.out 0
          have rf1 := blk_frozen H2X.out 1
          have rf2 := blk_frozen H2X.out 2
          have rf3 := blk_frozen H2X.out 3
          have rf4 := blk_frozen H2X.out 4
          go_wp2
          obtain ⟨q0, q1, q2, q3, q4⟩ := five_cells H2X.out (.int .i64 2) (.string ⟨#[]⟩) (.slice none 0 0) (.slice none 0 0) (.int .i64 (i : Int))
          unfold fiveSet at q0 q1 q2 q3 q4
          refine bodyPost_ret (v := .agg #[.int .i64 2, .string ⟨#[]⟩, .slice none 0 0, .slice none 0 0, .int .i64 (i : Int)]) (by simp [results, Try.results24, go_sem, q0, q1, q2, q3, q4]) rfl ?_
          exact ⟨_, _, _, _, _, _, _, _, _, rfl, _, five_moves HMX.out (Nat.le_refl _) hgl _ _ _ _ _⟩
      · have OT := Lib.hid (one_text s at_ sub wr x k hs hnbs hone)
        have HONE := Lib.hid hone
        have kz : ((k : Int) == 0) = false := beq_eq_false_iff_ne.2 (by omega)
        clear hsb hsz hnbs hone
        go_wp2
        go_quiet (fail)
        go_wp2
        go_region_with (go_at_call 19; refine (OT.out _).mono ?_; rintro e w2 ⟨rfl, hb2⟩)
        all_goals
          have HM2 := Lib.hid (moves_below HMV.out hb2)
          have H22 := Lib.hid (blk_below H2.out hb2 (blk_lt H2.out))
          have H32 := Lib.hid (blk_below H3.out hb2 (blk_lt H3.out))
          have HO2 := Lib.hid (own_below HOWN.out hb2)
          have cl1 := blk_cell HM2.out.2 1
          have cf1 := blk_frozen HM2.out.2 1
          clear hb2 d0 d1 OT hcv
          by_cases x39 : x = 39
          · subst x39
            go_wp2_with fail
            refine (byte_next g s v at_ 0 fp w2 HM2.out.2 (by omega)).mono ?_
            rintro e w3 ⟨rfl, n3, rfl⟩
            have hm3 := moves_drewN HM2.out n3
            have h23 : (w2.drewN n3).heap[w.heap.size]? = _ := H22.out
            have h33 : (w2.drewN n3).heap[w.heap.size + 1]? = _ := H32.out
            have ho3 := own_below HO2.out (below_drewN (Below.refl _ w2) n3)
            generalize w2.drewN n3 = w3 at hm3 h23 h33 ho3 ⊢
            have cl3 := blk_cell hm3.2 1
            have cf3 := blk_frozen hm3.2 1
            have HM3 := Lib.hid hm3
            have H23 := Lib.hid h23
            have H33 := Lib.hid h33
            have HO3 := Lib.hid ho3
            clear hm3 h23 h33 ho3 HM2 H22 H32 HO2 cl1 cf1
            by_cases h39 : Kx.gt (nb s) (at_ + 1) = 39
            · have hlt2 : at_ + 1 < s.size := by
                have := Kx.gt_lt (l := nb s) (i := at_ + 1) (by rw [h39]; decide)
                rw [hnl] at this
                exact this
              have hRn : Kx.textAt f (nb s) i (at_ + 2) (acc ++ [39]) = R := by
                rw [← HM.out, Kx.textAt, if_pos (by omega), HONE.out, if_neg (by show ¬ (k : Int) = 0; omega), if_neg (fun h => h.2 h39), if_pos (show (((39 : Nat) : Int), (k : Int)).1 = 39 from rfl)]
              have HRn := Lib.hid hRn
              rw [h39]
              clear hRn h39 HM
              have cl1 := cl3
              go_wp2
              have ag3 : Value.ownBlock (.slice uA acc.length uc) ≠ some (w.heap.size + 1) := own_ne HO3.out (by omega)
              have ag2 : Value.ownBlock (.slice uA acc.length uc) ≠ some w.heap.size := own_ne HO3.out (by omega)
              have agg : Value.ownBlock (.slice uA acc.length uc) ≠ some g := own_ne HO3.out (by omega)
              have hbs2 : w.heap.size + 2 ≤ w3.heap.size := by have := blk_lt H33.out; omega
              have hgw2 : g < w3.heap.size := blk_lt HM3.out.2
              have hwr : IntKind.i64.wrap ((at_ : Int) + 2) = (at_ : Int) + 2 := wraps_i64 _ (by omega) (by omega)
              go_region_law
                ((refine step_append_lies _ (by rfl) _ _ _ (by rfl) (w.heap.size + 2) 2 i2 _ 1 8 Try.underlying38 hi2 hz2 hs2 hb2 rfl (by omega) (.slice uA acc.length uc) acc.length (nums .i64 acc) (by rfl) ((HO3.out.alloc _).drew)
                    ⟨w3.heap.size, 0, none⟩ 1 1 (nums .i64 [39]) (by rfl) (by rfl) (World.news_of_block (cs := (nums .i64 [39]).toArray) (t := 2) (fr := (0, 0)) (heap_alloc_new w3 _)) nums_one
                    (by omega) (by unfold maxLen; omega) (by omega) (by simp; omega) (w3.heap.size + 1) (by simp) ?_; intro gg cap w8 hown8 hgrow hat8 hlt8; have hm8 := moves_own (moves_drew (moves_alloc HM3.out (Obj.cells (nums .i64 [39]).toArray 2))) hgrow hgl (fun b hb => by have := (HO3.out.lt b hb).1; omega); have HM8 := Lib.hid hm8; have d81 := blk_cell hm8.2 1; have df81 := blk_frozen hm8.2 1; have H28 := Lib.hid (blk_grown (blk_drew (blk_alloc H23.out (Obj.cells (nums .i64 [39]).toArray 2))) hgrow ag2); have H38 := Lib.hid (blk_grown (blk_drew (blk_alloc H33.out (Obj.cells (nums .i64 [39]).toArray 2))) hgrow ag3); have HO8 := Lib.hid hown8; have hgg8 := (hown8.lt gg rfl).1; clear hm8 hown8 hgrow hat8))
              all_goals
                go_wp2
                go_roundg f
                case measure => exact Nat.lt_succ_self f
                case rel =>
                  exact ⟨(at_ + 2), acc ++ [39], by omega, by omega, by rw [List.length_append, List.length_singleton]; omega, HRn.out, moves_set HM8.out (at_ + 2), blk_far H28.out (by simp; omega) _, blk_far H38.out (by simp; omega) _, own_far (by rw [nums_append, List.length_append]; exact HO8.out) (by simp; omega) _⟩
            · have hRg : R = .good acc (at_ + 1) := by
                rw [← HM.out, Kx.textAt, if_pos (by omega), HONE.out, if_neg (by show ¬ (k : Int) = 0; omega), if_pos ⟨rfl, h39⟩]
              subst hRg
              have hg39 : (Kx.gt (nb s) (at_ + 1) == 39) = false := beq_eq_false_iff_ne.2 h39
              generalize Kx.gt (nb s) (at_ + 1) = cn at *
              clear h39 HM
              go_wp2_with fail
              have hm4 := moves_set HM3.out (at_ + 1)
              have h24 := blk_far (p := ⟨g, 1, none⟩) H23.out (by simp; omega) (.int .i64 ((at_ + 1 : Nat) : Int))
              have h34 := blk_far (p := ⟨g, 1, none⟩) H33.out (by simp; omega) (.int .i64 ((at_ + 1 : Nat) : Int))
              have ho4 := own_far (p := ⟨g, 1, none⟩) HO3.out (by simp; omega) (.int .i64 ((at_ + 1 : Nat) : Int))
              obtain ⟨rA, rc, hrv, _, _, hrl, _, hrr⟩ := own_row ho4
              cases hrv
              refine (text_any _ acc.length uc acc _ hrr rfl (by omega)).mono ?_
              rintro e w5 ⟨v5, rfl, hl5, hb5⟩
              obtain ⟨XA, xn, xc, XB, xm, xd, rfl⟩ := lit_form hl5
              have H2X := Lib.hid (blk_below h24 hb5 (blk_lt h24))
              have H3X := Lib.hid (blk_below h34 hb5 (blk_lt h34))
              have HMX := Lib.hid (moves_below hm4 hb5)
              have HLX := Lib.hid hl5
              have HSX := Lib.hid (blk_lt h34)
              clear hm4 h24 h34 ho4 hrr hl5 hb5 hrl
              have p0 := blk_cell H3X.out 0
              have p1 := blk_cell H3X.out 1
              have p2 := blk_cell H3X.out 2
              have p3 := blk_cell H3X.out 3
              have p4 := blk_cell H3X.out 4
              have pf2 := blk_frozen H3X.out 2
              have pf3 := blk_frozen H3X.out 3
              have r0 := blk_cell H2X.out 0
              have r1 := blk_cell H2X.out 1
              have r2 := blk_cell H2X.out 2
              have r3 := blk_cell H2X.out 3
              have r4 := blk_cell H2X.out 4
              have rf0 := blk_frozen H2X.out 0
              have rf1 := blk_frozen H2X.out 1
              have rf2 := blk_frozen H2X.out 2
              have rf3 := blk_frozen H2X.out 3
              have rf4 := blk_frozen H2X.out 4
              go_wp2
              have h2z := blk_far (p := ⟨w.heap.size + 1, 3, none⟩) (blk_far (p := ⟨w.heap.size + 1, 2, none⟩) H2X.out (by simp) (.slice XA xn xc)) (by simp) (.slice XB xm xd)
              obtain ⟨q0, q1, q2, q3, q4⟩ := five_cells h2z (.int .i64 2) (.string ⟨#[]⟩) (.slice XA xn xc) (.slice XB xm xd) (.int .i64 (i : Int))
              unfold fiveSet at q0 q1 q2 q3 q4
              refine bodyPost_ret (v := .agg #[.int .i64 2, .string ⟨#[]⟩, .slice XA xn xc, .slice XB xm xd, .int .i64 (i : Int)]) (by simp [results, Try.results24, go_sem, q0, q1, q2, q3, q4]) rfl ?_
              have hmz := five_moves (moves_old (moves_old HMX.out (Nat.le_succ _) hgl 2 (.slice XA xn xc)) (Nat.le_succ _) hgl 3 (.slice XB xm xd)) (Nat.le_refl _) hgl (.int .i64 2) (.string ⟨#[]⟩) (.slice XA xn xc) (.slice XB xm xd) (.int .i64 (i : Int))
              have hlz := lit_five (B := w.heap.size) (a0 := .int .i64 2) (a1 := .string ⟨#[]⟩) (a2 := .slice XA xn xc) (a3 := .slice XB xm xd) (a4 := .int .i64 (i : Int)) (lit_far (p := ⟨w.heap.size + 1, 3, none⟩) (u := .slice XB xm xd) (lit_far (p := ⟨w.heap.size + 1, 2, none⟩) (u := .slice XA xn xc) HLX.out HSX.out) HSX.out) (Nat.lt_of_succ_lt HSX.out)
              exact ⟨_, _, rfl, hlz, hmz⟩
          · have xb39 : ((x : Int) == 39) = false := beq_eq_false_iff_ne.2 (by omega)
            have hone39 : ¬ (x : Int) = 39 := by omega
            by_cases hbad : (x : Int) < 32 ∨ (x : Int) = 127
            · have hRb : R = .bad 2 at_ := by
                rw [← HM.out, Kx.textAt, if_pos (by omega), HONE.out, if_neg (by show ¬ (k : Int) = 0; omega), if_neg (fun h => hone39 h.1), if_neg hone39, if_pos hbad]
              subst hRb
              have hbb : (decide (x < 32) = true ∧ decide ((x : Int) < 32) = true) ∨ (decide (x < 32) = false ∧ decide ((x : Int) < 32) = false ∧ ((x : Int) == 127) = true) := by
                rcases Nat.lt_or_ge x 32 with h | h
                · exact .inl ⟨decide_eq_true h, decide_eq_true (by omega)⟩
                · exact .inr ⟨decide_eq_false (by omega), decide_eq_false (by omega), beq_iff_eq.2 (by omega)⟩
              clear hbad hone39 x39 HM cf1
              rcases hbb with ⟨xb1, xb3⟩ | ⟨xb1, xb3, xb2⟩
              all_goals
                go_wp2_with fail
                refine (fail_any g s v at_ fp 2 (at_ : Int) _ HM2.out.2).mono ?_
                rintro e w9 ⟨rfl, hm9⟩
                have H2X := Lib.hid (blk_grown H22.out hm9.1 (by intro e; cases e; omega))
                have H3X := Lib.hid (blk_grown H32.out hm9.1 (by intro e; cases e; omega))
                have HMX := Lib.hid (moves_step HM2.out hm9)
                clear hm9 cl1
                have p0 := blk_cell H3X.out 0
                have p1 := blk_cell H3X.out 1
                have p2 := blk_cell H3X.out 2
                have p3 := blk_cell H3X.out 3
                have p4 := blk_cell H3X.out 4
                have pf2 := blk_frozen H3X.out 2
                have pf3 := blk_frozen H3X.out 3
                have r0 := blk_cell H2X.out 0
                have r1 := blk_cell H2X.out 1
                have r2 := blk_cell H2X.out 2
                have r3 := blk_cell H2X.out 3
                have r4 := blk_cell H2X.out 4
                have rf0 := blk_frozen H2X.out 0
                have rf1 := blk_frozen H2X.out 1
                have rf2 := blk_frozen H2X.out 2
                have rf3 := blk_frozen H2X.out 3
                have rf4 := blk_frozen H2X.out 4
                go_wp2
                obtain ⟨q0, q1, q2, q3, q4⟩ := five_cells H2X.out (.int .i64 2) (.string ⟨#[]⟩) (.slice none 0 0) (.slice none 0 0) (.int .i64 (i : Int))
                unfold fiveSet at q0 q1 q2 q3 q4
                refine bodyPost_ret (v := .agg #[.int .i64 2, .string ⟨#[]⟩, .slice none 0 0, .slice none 0 0, .int .i64 (i : Int)]) (by simp [results, Try.results24, go_sem, q0, q1, q2, q3, q4]) rfl ?_
                exact ⟨_, _, _, _, _, _, _, _, _, rfl, _, five_moves HMX.out (Nat.le_refl _) hgl _ _ _ _ _⟩
            · have hRn : Kx.textAt f (nb s) i (at_ + k) (acc ++ [(x : Int)]) = R := by
                rw [← HM.out, Kx.textAt, if_pos (by omega), HONE.out, if_neg (by show ¬ (k : Int) = 0; omega), if_neg (fun h => hone39 h.1), if_neg hone39, if_neg hbad]
                simp only [Int.toNat_natCast]
              have HRn := Lib.hid hRn
              have xb1 : decide (x < 32) = false := decide_eq_false (by omega)
              have xb3 : decide ((x : Int) < 32) = false := decide_eq_false (by omega)
              have xb2 : ((x : Int) == 127) = false := beq_eq_false_iff_ne.2 (by omega)
              clear hbad hone39 x39 HM hRn
              go_wp2
              have ag3 : Value.ownBlock (.slice uA acc.length uc) ≠ some (w.heap.size + 1) := own_ne HO2.out (by omega)
              have ag2 : Value.ownBlock (.slice uA acc.length uc) ≠ some w.heap.size := own_ne HO2.out (by omega)
              have agg : Value.ownBlock (.slice uA acc.length uc) ≠ some g := own_ne HO2.out (by omega)
              have hbs2 : w.heap.size + 2 ≤ w2.heap.size := by have := blk_lt H32.out; omega
              have hgw2 : g < w2.heap.size := blk_lt HM2.out.2
              have hwr : IntKind.i64.wrap ((at_ : Int) + (k : Int)) = (at_ : Int) + (k : Int) := wraps_i64 _ (by omega) (by omega)
              go_region_law
                ((refine step_append_lies _ (by rfl) _ _ _ (by rfl) (w.heap.size + 2) 2 i2 _ 1 8 Try.underlying38 hi2 hz2 hs2 hb2 rfl (by omega) (.slice uA acc.length uc) acc.length (nums .i64 acc) (by rfl) ((HO2.out.alloc _).drew)
                    ⟨w2.heap.size, 0, none⟩ 1 1 (nums .i64 [(x : Int)]) (by rfl) (by rfl) (World.news_of_block (cs := (nums .i64 [(x : Int)]).toArray) (t := 2) (fr := (0, 0)) (heap_alloc_new w2 _)) nums_one
                    (by omega) (by unfold maxLen; omega) (by omega) (by simp; omega) (w2.heap.size + 1) (by simp) ?_; intro gg cap w8 hown8 hgrow hat8 hlt8; have hm8 := moves_own (moves_drew (moves_alloc HM2.out (Obj.cells (nums .i64 [(x : Int)]).toArray 2))) hgrow hgl (fun b hb => by have := (HO2.out.lt b hb).1; omega); have HM8 := Lib.hid hm8; have d81 := blk_cell hm8.2 1; have df81 := blk_frozen hm8.2 1; have H28 := Lib.hid (blk_grown (blk_drew (blk_alloc H22.out (Obj.cells (nums .i64 [(x : Int)]).toArray 2))) hgrow ag2); have H38 := Lib.hid (blk_grown (blk_drew (blk_alloc H32.out (Obj.cells (nums .i64 [(x : Int)]).toArray 2))) hgrow ag3); have HO8 := Lib.hid hown8; have hgg8 := (hown8.lt gg rfl).1; clear hm8 hown8 hgrow hat8))
              all_goals
                go_wp2
                go_roundg f
                case measure => exact Nat.lt_succ_self f
                case rel =>
                  exact ⟨(at_ + k), acc ++ [(x : Int)], by omega, by omega, by rw [List.length_append, List.length_singleton]; omega, HRn.out, moves_set HM8.out (at_ + k), blk_far H28.out (by simp; omega) _, blk_far H38.out (by simp; omega) _, own_far (by rw [nums_append, List.length_append]; exact HO8.out) (by simp; omega) _⟩
    · obtain rfl : at_ = s.size := by omega
      have hdn : decide (s.size ≤ s.size) = true := decide_eq_true (Nat.le_refl _)
      have hRb : R = .bad 2 i := by rw [← HM.out, Kx.textAt, if_neg (by omega)]
      subst hRb
      go_wp2
      go_quiet (fail)
      have hm2 := moves_drewN HMV.out nq
      have h22 : (wr.drewN nq).heap[w.heap.size]? = _ := H2.out
      have h32 : (wr.drewN nq).heap[w.heap.size + 1]? = _ := H3.out
      generalize wr.drewN nq = w2 at hm2 h22 h32 ⊢
      have t4 := blk_cell h32 4
      have HM2 := Lib.hid hm2
      have H22 := Lib.hid h22
      have H32 := Lib.hid h32
      have cl1 := blk_cell HM2.out.2 1
      clear hm2 h22 h32 d0 d1 HM
      go_wp2_with fail
      refine (fail_any g s v s.size fp 2 (i : Int) _ HM2.out.2).mono ?_
      rintro e w9 ⟨rfl, hm9⟩
      have H2X := Lib.hid (blk_grown H22.out hm9.1 (by intro e; cases e; omega))
      have H3X := Lib.hid (blk_grown H32.out hm9.1 (by intro e; cases e; omega))
      have HMX := Lib.hid (moves_step HM2.out hm9)
      clear hm9 cl1 t4
      have p0 := blk_cell H3X.out 0
      have p1 := blk_cell H3X.out 1
      have p2 := blk_cell H3X.out 2
      have p3 := blk_cell H3X.out 3
      have p4 := blk_cell H3X.out 4
      have pf2 := blk_frozen H3X.out 2
      have pf3 := blk_frozen H3X.out 3
      have r0 := blk_cell H2X.out 0
      have r1 := blk_cell H2X.out 1
      have r2 := blk_cell H2X.out 2
      have r3 := blk_cell H2X.out 3
      have r4 := blk_cell H2X.out 4
      have rf0 := blk_frozen H2X.out 0
      have rf1 := blk_frozen H2X.out 1
      have rf2 := blk_frozen H2X.out 2
      have rf3 := blk_frozen H2X.out 3
      have rf4 := blk_frozen H2X.out 4
      go_wp2
      obtain ⟨q0, q1, q2, q3, q4⟩ := five_cells H2X.out (.int .i64 2) (.string ⟨#[]⟩) (.slice none 0 0) (.slice none 0 0) (.int .i64 (i : Int))
      unfold fiveSet at q0 q1 q2 q3 q4
      refine bodyPost_ret (v := .agg #[.int .i64 2, .string ⟨#[]⟩, .slice none 0 0, .slice none 0 0, .int .i64 (i : Int)]) (by simp [results, Try.results24, go_sem, q0, q1, q2, q3, q4]) rfl ?_
      exact ⟨_, _, _, _, _, _, _, _, _, rfl, _, five_moves HMX.out (Nat.le_refl _) hgl _ _ _ _ _⟩
end Go.Proofs.Ytiboikbccmfedaa
