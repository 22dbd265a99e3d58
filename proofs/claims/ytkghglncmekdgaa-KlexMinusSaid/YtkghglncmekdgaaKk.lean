/- Contract of the lexer's text. Conditions: the lexer's block reads in memory; its place lies within the text. -/
import Derived.Test.YtkghglncmekdgaaKj
namespace Go.Proofs.Ytkghglncmekdgaa
open Go.RowKit

theorem one_cases {l : List Int} {p : Nat} (hp : p < l.length) (hb : Spec.Bytes l) :
    Spec.one (l.drop p) = (0, 0) ∨ ∃ x k : Nat, Spec.one (l.drop p) = ((x : Int), (k : Int)) ∧ 1 ≤ k ∧ k ≤ 4 ∧ p + k ≤ l.length ∧ x < 1114112 := by
  have hbd : Spec.Bytes (l.drop p) := fun x hx => hb x (List.mem_of_mem_drop hx)
  have hsp := Spec.one_spec _ hbd
  generalize hq : Spec.one (l.drop p) = q at hsp ⊢
  clear hq
  rcases hsp with ⟨h1, h2, r, h3⟩ | ⟨h1, h2⟩
  · right
    have hl : 1 ≤ (Spec.enc q.1).length ∧ (Spec.enc q.1).length ≤ 4 := by unfold Spec.enc; split <;> (try split) <;> (try split) <;> simp
    have hx := Spec.good_iff.1 h1
    have hlen : l.length - p = (Spec.enc q.1).length + r.length := by rw [← List.length_drop, h3, List.length_append]
    refine ⟨q.1.toNat, (Spec.enc q.1).length, ?_, hl.1, hl.2, by omega, by omega⟩
    rw [Int.toNat_of_nonneg (by omega), ← h2]
  · exact .inl h1

theorem conv_all (s : ByteArray) (hs : s.size ≤ 1000000) (W : World) : (convert 9 45 (.string s)).run Try.prog W = .ok (.slice (some ⟨W.heap.size, 0, none⟩) s.size (grownCap W s.size 0 5)) (Lib.bytesWorld W 5 s) ∧ RowAt .u8 (Lib.bytesWorld W 5 s) (some ⟨W.heap.size, 0, none⟩) (nb s) ∧ Below W.heap.size W (Lib.bytesWorld W 5 s) ∧ s.size ≤ grownCap W s.size 0 5 := by
  refine ⟨Lib.run_convert_string_bytes W 9 45 5 s Try.underlying9 Try.underlying45 Try.underlying5, ⟨by rw [nb_length]; omega, fun _ => ⟨_, _, rfl, fun j hj => ?_⟩⟩, ?_, grownCap_ge _ _ _ _⟩
  · rw [nb_length] at hj
    rw [Nat.zero_add, Lib.bytesWorld_cell W 5 s j hj, nb_getD s j hj]
    have h2 : j < s.data.toList.length := by rw [Array.length_toList]; exact hj
    rw [List.getD_eq_getElem?_getD, List.getElem?_eq_getElem h2]
    rfl
  · refine ⟨rfl, rfl, rfl, ?_, fun k hk => Lib.bytesWorld_at_old W 5 s k hk⟩
    rw [Lib.bytesWorld_size]; omega
theorem extract_end (s : ByteArray) (i : Nat) (hi : i ≤ s.size) : s.extract i s.size = strOfNums ((nb s).drop i) := by
  have := extract_nb s i (s.size - i)
  rw [show i + (s.size - i) = s.size from by omega, List.take_of_length_le (by rw [List.length_drop, nb_length]; exact Nat.le_refl _)] at this
  exact this

def TwoTo (x k : Int) (w : World) (e : Ending) (w' : World) : Prop := e = .returned (.tuple #[.int .i64 x, .int .i64 k]) ∧ Below w.heap.size w w'
/-- the sign at a place, where the rest of the text was made bytes -/
theorem one_text (s : ByteArray) (at_ : Nat) (sub : ByteArray) (wr : World) (x k : Int) (hs : s.size ≤ 100000) (hsub : nb sub = (nb s).drop at_) (h1 : Spec.one ((nb s).drop at_) = (x, k)) (n : Nat) :
    Calls Try.prog 21 #[.slice (some ⟨wr.heap.size, 0, none⟩) sub.size (grownCap (wr.drewN n) sub.size 0 5)] (Lib.bytesWorld (wr.drewN n) 5 sub) (TwoTo x k wr) := by
  have hsz : sub.size ≤ 1000000 := by rw [← nb_length, hsub, List.length_drop, nb_length]; omega
  obtain ⟨_, hrow, hbel, hcap⟩ := conv_all sub hsz (wr.drewN n)
  refine (one_any _ _ _ (nb sub) _ hrow (nb_length sub) hcap (nb_bytes sub)).mono ?_
  rintro e w' ⟨rfl, hb⟩
  rw [hsub, h1]
  exact ⟨rfl, below_then (below_then (below_drewN (Below.refl _ wr) n) (Nat.le_refl _) hbel) (Nat.le_trans (Nat.le_refl _) hbel.size) hb⟩

/-- an array and a fault are laid into the results' variables -/
def fiveSet (w : World) (B : Nat) (a0 a1 v0 v1 v2 : Value) : World :=
  ((((w.setCell ⟨B, 0, none⟩ a0).setCell ⟨B, 1, none⟩ a1).setCell ⟨B + 1, 0, none⟩ v0).setCell ⟨B + 1, 1, none⟩ v1).setCell ⟨B + 1, 2, none⟩ v2
theorem five_cells {w : World} {B : Nat} {o0 o1 p0 p1 p2 : Value} (h0 : w.heap[B]? = some (.cells #[o0, o1] 33 (0, 0))) (h1 : w.heap[B + 1]? = some (.cells #[p0, p1, p2] 26 (0, 0))) (a0 a1 v0 v1 v2 : Value) :
    (fiveSet w B a0 a1 v0 v1 v2).cell? ⟨B, 0, none⟩ = some a0 ∧ (fiveSet w B a0 a1 v0 v1 v2).cell? ⟨B, 1, none⟩ = some a1 ∧ (fiveSet w B a0 a1 v0 v1 v2).cell? ⟨B + 1, 0, none⟩ = some v0 ∧ (fiveSet w B a0 a1 v0 v1 v2).cell? ⟨B + 1, 1, none⟩ = some v1 ∧ (fiveSet w B a0 a1 v0 v1 v2).cell? ⟨B + 1, 2, none⟩ = some v2 := by
  have g0 := blk_set (blk_set h0 0 a0) 1 a1
  have g1 := blk_far (p := ⟨B + 1, 2, none⟩) (blk_far (p := ⟨B + 1, 1, none⟩) (blk_far (p := ⟨B + 1, 0, none⟩) g0 (by simp) v0) (by simp) v1) (by simp) v2
  have g2 := blk_set (blk_set (blk_set (blk_far (p := ⟨B, 1, none⟩) (blk_far (p := ⟨B, 0, none⟩) h1 (by simp) a0) (by simp) a1) 0 v0) 1 v1) 2 v2
  refine ⟨(blk_cell g1 0).trans ?_, (blk_cell g1 1).trans ?_, (blk_cell g2 0).trans ?_, (blk_cell g2 1).trans ?_, (blk_cell g2 2).trans ?_⟩ <;> simp
theorem five_moves {g : Nat} {s : ByteArray} {k : Nat} {w w' : World} (h : Moves g s k w w') (hg : g < w.heap.size) (a0 a1 v0 v1 v2 : Value) : Moves g s k w (fiveSet w' w.heap.size a0 a1 v0 v1 v2) :=
  moves_old (moves_old (moves_old (moves_old (moves_old h (Nat.le_refl _) hg 0 a0) (Nat.le_refl _) hg 1 a1) (Nat.le_succ _) hg 0 v0) (Nat.le_succ _) hg 1 v1) (Nat.le_succ _) hg 2 v2
theorem moves_drewN {g : Nat} {s : ByteArray} {k : Nat} {w w' : World} (h : Moves g s k w w') (n : Nat) : Moves g s k w (w'.drewN n) := ⟨⟨h.1.os, h.1.tape, h.1.output, h.1.size, h.1.block⟩, h.2⟩
theorem moves_drew {g : Nat} {s : ByteArray} {k : Nat} {w w' : World} (h : Moves g s k w w') : Moves g s k w w'.drew := ⟨⟨h.1.os, h.1.tape, h.1.output, h.1.size, h.1.block⟩, h.2⟩

theorem lit_store5 {w4 w5 : World} {B : Nat} {v a0 a1 v0 v1 v2 : Value} {t : Kx.Lit} (h : LitAt (w4.heap.size ≤ ·) w5 v t) (hw : B + 1 < w4.heap.size) : LitAt (B ≤ ·) (fiveSet w5 B a0 a1 v0 v1 v2) v t := by
  refine h.mono (by simp [fiveSet, World.setCell]) (fun b (hS : w4.heap.size ≤ b) hb => ⟨Nat.le_trans (by omega) hS, ?_⟩)
  unfold fiveSet
  exact (Below.heap_setCell _ _ _ b (by simp; omega)).trans ((Below.heap_setCell _ _ _ b (by simp; omega)).trans ((Below.heap_setCell _ _ _ b (by simp; omega)).trans ((Below.heap_setCell _ _ _ b (by simp; omega)).trans (Below.heap_setCell _ _ _ b (by simp; omega)))))

def TextIs (R : Kx.Text) (g : Nat) (s : ByteArray) (w : World) (e : Ending) (w' : World) : Prop :=
  match R with
  | .bad er j => e = .returned (.tuple #[.agg #[.slice none 0 0, .slice none 0 0], .agg #[.int .i64 er, .int .i64 (j : Int), .int .i64 0]]) ∧ ∃ k, Moves g s k w w'
  | .good xs j => ∃ v, e = .returned (.tuple #[v, .agg #[.int .i64 0, .int .i64 0, .int .i64 0]]) ∧ LitAt (w.heap.size ≤ ·) w' v (Kx.litText xs) ∧ Moves g s j w w'

set_option maxRecDepth 100000 in
set_option maxHeartbeats 4000000 in
theorem text_lex (g : Nat) (s : ByteArray) (i : Nat) (w : World) (hg : w.heap[g]? = some (lcell s i)) (hi : i < s.size) (hs : s.size ≤ 100000) :
    Calls Try.prog 24 #[.pointer (some ⟨g, 0, none⟩)] w (TextIs (Kx.textAt ((nb s).length + 1) (nb s) i (i + 1) []) g s w) := by
  obtain ⟨i2, hi2, hz2, hs2, hb2⟩ := info_parts info2
  have hgl := blk_lt hg
  have H := Lib.hid hg
  have c0 := blk_cell hg 0
  have c1 := blk_cell hg 1
  have cf := blk_frozen hg 1
  have hnl := nb_length s
  obtain ⟨R, hR⟩ : ∃ R, Kx.textAt ((nb s).length + 1) (nb s) i (i + 1) [] = R := ⟨_, rfl⟩
  rw [hR]
  have HRR := Lib.hid hR
  clear hR hg
  go_enter Try.func24, Try.ntmps24
  go_wp2
  go_loopg [5] ((nb s).length + 1) (fun f v wr => ∃ (at_ : Nat) (acc : List Int), at_ ≤ s.size ∧ s.size < at_ + f ∧ acc.length ≤ at_ ∧ Kx.textAt f (nb s) i at_ acc = R ∧ Moves g s at_ w wr ∧ (∃ o : Value × Value, wr.heap[w.heap.size]? = some (.cells #[o.1, o.2] 33 (0, 0))) ∧ (∃ o : Value × Value × Value, wr.heap[w.heap.size + 1]? = some (.cells #[o.1, o.2.1, o.2.2] 26 (0, 0))) ∧ wr.ownsRow (w.heap.size + 2) 2 1 v acc.length (nums .i64 acc))
  case atStart =>
    refine ⟨i + 1, [], by omega, by omega, Nat.zero_le _, HRR.out, ?_, ⟨(.slice none 0 0, .slice none 0 0), ?_⟩, ⟨(.int .i64 0, .int .i64 0, .int .i64 0), ?_⟩, World.ownsRow_nil _ _ _ _⟩
    · exact moves_below (moves_set (moves_refl H.out) (i + 1)) (((Below.refl _ _).alloc (Nat.le_refl _) _).alloc (by simp) _)
    · have := blk_alloc (blk_new (w.setCell ⟨g, 1, none⟩ (.int .i64 ((i + 1 : Nat) : Int))) (Obj.cells #[Value.slice none 0 0, Value.slice none 0 0] 33)) (Obj.cells #[Value.int IntKind.i64 0, Value.int IntKind.i64 0, Value.int IntKind.i64 0] 26)
      simpa [World.setCell] using this
    · have := blk_new ((w.setCell ⟨g, 1, none⟩ (.int .i64 ((i + 1 : Nat) : Int))).alloc (Obj.cells #[Value.slice none 0 0, Value.slice none 0 0] 33)) (Obj.cells #[Value.int IntKind.i64 0, Value.int IntKind.i64 0, Value.int IntKind.i64 0] 26)
      simpa [World.setCell] using this
  case round =>
    obtain ⟨at_, acc, hat, hf, hacc, hM, hmv, hres, hres1, hown⟩ := hrel
    obtain ⟨f, rfl⟩ : ∃ f, gk = f + 1 := ⟨gk - 1, by omega⟩
    have d0 := blk_cell hmv.2 0
    have d1 := blk_cell hmv.2 1
    have HM := Lib.hid hM
    have HMV := Lib.hid hmv
    have HRES := Lib.hid hres
    have HRES1 := Lib.hid hres1
    obtain ⟨vA, vc, rfl, _, _, _, _, hrow⟩ := own_row hown
    have HROW := Lib.hid hrow
    have HOWN := Lib.hid hown
    have HACC := Lib.hid hacc
    clear hM hmv hres hres1 hown hacc c0 c1 cf hrow
    by_cases hin : at_ < s.size
    · have hsub := extract_end s at_ hat
      obtain ⟨sub, hsb⟩ : ∃ sub, strOfNums ((nb s).drop at_) = sub := ⟨_, rfl⟩
      rw [hsb] at hsub
      have hsz : sub.size = s.size - at_ := by rw [← hsb, strOfNums_size, List.length_drop, hnl]
      have hnbs : nb sub = (nb s).drop at_ := by rw [← hsb]; exact nb_str _ (fun x hx => nb_bytes s x (List.mem_of_mem_drop hx))
      have hcv := fun W => (conv_all sub (by omega) W).1
      have HCV := Lib.hid (conv_all sub (by omega))
      have HNB := Lib.hid hnbs
      have HSZ := Lib.hid hsz
      rcases one_cases (l := nb s) (p := at_) (by omega) (nb_bytes s) with hone | ⟨x, k, hone, hk1, hk4, hpk, hx⟩
      · have OT := Lib.hid (one_text s at_ sub wr 0 0 hs hnbs hone)
        have hRb : R = .bad 3 at_ := by rw [← HM.out, Kx.textAt, if_pos (by omega), hone]; rfl
        subst hRb
        clear hsb hsz hnbs hone HSZ HNB HCV HM
        obtain ⟨⟨o0, o1⟩, hres⟩ := HRES.out
        obtain ⟨⟨p0, p1, p2⟩, hres1⟩ := HRES1.out
        go_wp2
        go_quiet (fail)
        go_wp2
        go_region_with (go_at_call 21; refine (OT.out _).mono ?_; rintro e w2 ⟨rfl, hb2⟩)
        all_goals
          have h0 := blk_below hres hb2 (blk_lt hres)
          have h1 := blk_below hres1 hb2 (blk_lt hres1)
          have r0 := blk_cell h0 0
          have r1 := blk_cell h0 1
          have rf0 := blk_frozen h0 0
          have rf1 := blk_frozen h0 1
          have t0 := blk_cell h1 0
          have t1 := blk_cell h1 1
          have t2 := blk_cell h1 2
          have tf0 := blk_frozen h1 0
          have tf1 := blk_frozen h1 1
          have tf2 := blk_frozen h1 2
          have e1 := blk_cell (moves_below HMV.out hb2).2 1
          have H0 := Lib.hid h0
          have H1 := Lib.hid h1
          have HM2 := Lib.hid (moves_below HMV.out hb2)
          clear h0 h1 hres hres1 d0 d1 hb2
          go_wp2
          go_region
        all_goals
          go_wp2
          obtain ⟨q0, q1, q2, q3, q4⟩ := five_cells H0.out H1.out (.slice none 0 0) (.slice none 0 0) (.int .i64 3) (.int .i64 (at_ : Int)) (.int .i64 0)
          unfold fiveSet at q0 q1 q2 q3 q4
          refine bodyPost_ret (v := .tuple #[.agg #[.slice none 0 0, .slice none 0 0], .agg #[.int .i64 3, .int .i64 (at_ : Int), .int .i64 0]]) (by simp [results, Try.results24, go_sem, q0, q1, q2, q3, q4]) rfl ?_
          exact ⟨rfl, at_, moves_drew (five_moves HM2.out hgl _ _ _ _ _)⟩
      · have OT := Lib.hid (one_text s at_ sub wr x k hs hnbs hone)
        have HONE := Lib.hid hone
        have kz : ((k : Int) == 0) = false := beq_eq_false_iff_ne.2 (by omega)
        clear hsb hsz hnbs hone HSZ HNB HCV
        go_wp2
        go_quiet (fail)
        go_wp2
        go_region_with (go_at_call 21; refine (OT.out _).mono ?_; rintro e w2 ⟨rfl, hb2⟩)
        all_goals
          have HM2 := Lib.hid (moves_below HMV.out hb2)
          have e0 := blk_cell (moves_below HMV.out hb2).2 0
          have e1 := blk_cell (moves_below HMV.out hb2).2 1
          have ef := blk_frozen (moves_below HMV.out hb2).2 1
          have HB2 := Lib.hid hb2
          clear hb2 d0 d1 OT hcv
          by_cases x34 : x = 34
          · subst x34
            have hRg : R = .good acc (at_ + 1) := by rw [← HM.out, Kx.textAt, if_pos (by omega), HONE.out, if_neg (by show ¬ (k : Int) = 0; omega)]; rfl
            subst hRg
            go_wp2_with fail
            rw [show ((at_ : Int) + 1) = ((at_ + 1 : Nat) : Int) from by omega]
            have hm3 := moves_set HM2.out (at_ + 1)
            have hown3 := own_far (p := ⟨g, 1, none⟩) (own_below HOWN.out HB2.out) (by simp; omega) (.int .i64 ((at_ + 1 : Nat) : Int))
            obtain ⟨⟨o0, o1⟩, hres⟩ := HRES.out
            obtain ⟨⟨p0, p1, p2⟩, hres1⟩ := HRES1.out
            have h0 := blk_far (p := ⟨g, 1, none⟩) (blk_below hres HB2.out (blk_lt hres)) (by simp; omega) (.int .i64 ((at_ + 1 : Nat) : Int))
            have h1 := blk_far (p := ⟨g, 1, none⟩) (blk_below hres1 HB2.out (blk_lt hres1)) (by simp; omega) (.int .i64 ((at_ + 1 : Nat) : Int))
            generalize w2.setCell ⟨g, 1, none⟩ (.int .i64 ((at_ + 1 : Nat) : Int)) = w3 at hm3 hown3 h0 h1 ⊢
            have hrow3 : RowAt .i64 w3 vA acc := by
              obtain ⟨A, c, hv, _, _, _, _, hrow⟩ := own_row hown3
              cases hv
              exact hrow
            have hacc2 := HACC.out
            refine (text_any vA acc.length vc acc w3 hrow3 rfl (by omega)).mono ?_
            rintro e w5 ⟨v, rfl, hlit, hb5⟩
            obtain ⟨lA, ln, lc, lB, lm, ld, rfl⟩ := lit_form hlit
            have hsz3 := blk_lt h1
            have h0' := blk_below h0 hb5 (blk_lt h0)
            have h1' := blk_below h1 hb5 (blk_lt h1)
            have r0 := blk_cell h0' 0
            have r1 := blk_cell h0' 1
            have rf0 := blk_frozen h0' 0
            have rf1 := blk_frozen h0' 1
            have t0 := blk_cell h1' 0
            have t1 := blk_cell h1' 1
            have t2 := blk_cell h1' 2
            have tf0 := blk_frozen h1' 0
            have tf1 := blk_frozen h1' 1
            have tf2 := blk_frozen h1' 2
            have H0 := Lib.hid h0'
            have H1 := Lib.hid h1'
            have HLIT := Lib.hid hlit
            have HM5 := Lib.hid (moves_below hm3 hb5)
            clear h0 h1 h0' h1' hres hres1 hlit hb5 hm3 hown3 hrow3
            go_wp2
            obtain ⟨q0, q1, q2, q3, q4⟩ := five_cells H0.out H1.out (.slice lA ln lc) (.slice lB lm ld) (.int .i64 0) (.int .i64 0) (.int .i64 0)
            unfold fiveSet at q0 q1 q2 q3 q4
            refine bodyPost_ret (v := .tuple #[.agg #[.slice lA ln lc, .slice lB lm ld], .agg #[.int .i64 0, .int .i64 0, .int .i64 0]]) (by simp [results, Try.results24, go_sem, q0, q1, q2, q3, q4]) rfl ?_
            exact ⟨_, rfl, lit_store5 HLIT.out hsz3, five_moves HM5.out hgl _ _ _ _ _⟩
          · have b34 : ((x : Int) == 34) = false := beq_eq_false_iff_ne.2 (by omega)
            by_cases x92 : x = 92
            · subst x92
              have PK := Lib.hid (fun (w : World) hg => peek_next g s at_ w hg (by omega))
              by_cases hc : Kx.gt (nb s) (at_ + 1) = 34
              · rw [hc] at PK
                have hlt1 : at_ + 1 < s.size := by have := Kx.gt_lt (l := nb s) (i := at_ + 1) (by rw [hc]; decide); omega
                have HRG := Lib.hid (show Kx.textAt f (nb s) i (at_ + 2) (acc ++ [(34 : Int)]) = R by 

                    rw [← HM.out, Kx.textAt, if_pos (by omega), HONE.out, if_neg (by show ¬ (k : Int) = 0; omega), if_neg (by show ¬ (92 : Int) = 34; omega), if_pos (show (((92 : Nat) : Int), (k : Int)).1 = 92 ∧ (Kx.gt (nb s) (at_ + 1) = 34 ∨ Kx.gt (nb s) (at_ + 1) = 92) from ⟨rfl, .inl hc⟩), hc])
                have hacc1 : acc.length ≤ 100000 := by have := HACC.out; omega
                have HOWN2 := Lib.hid (own_below HOWN.out HB2.out)
                have hbs : w.heap.size + 1 < w2.heap.size := by obtain ⟨o, ho⟩ := HRES1.out; have := blk_lt ho; have := HB2.out.size; omega
                go_wp2_with fail
                refine (PK.out w2 HM2.out.2).mono ?_
                rintro e w3 ⟨rfl, rfl⟩
                go_wp2_with fail
                refine (PK.out w2 HM2.out.2).mono ?_
                rintro e w3 ⟨rfl, rfl⟩
                go_wp2_with
                  (at_builtin; refine wpList_append_lies _ rfl (.tmp 98) (.tmp 100) 44 rfl (w.heap.size + 2) 2 i2 _ 1 8 Try.underlying44 hi2 hz2 hs2 hb2 rfl (by omega) (.slice vA acc.length vc) acc.length (nums .i64 acc) rfl (HOWN2.out.alloc _)
                      ⟨w2.heap.size, 0, none⟩ 1 1 (nums .i64 [(34 : Int)]) rfl rfl (World.news_of_block (cs := (nums .i64 [(34 : Int)]).toArray) (t := 2) (fr := (0, 0)) (heap_alloc_new w2 _)) nums_one (by omega) (by unfold maxLen; omega) (by omega) (by simp; omega) (w2.heap.size + 1) (by simp) ?_; intro gg cap w3 hown3 hgrow hat3 hlt3; have HM3 := Lib.hid (moves_own (moves_below HM2.out ((Below.refl w2.heap.size w2).alloc (Nat.le_refl _) (Obj.cells (nums .i64 [(34 : Int)]).toArray 2))) hgrow hgl (fun b hb => by have := (HOWN2.out.lt b hb).1; omega)); have d1 := blk_cell HM3.out.2 1; have df := blk_frozen HM3.out.2 1)
                have hres3 : ∃ o : Value × Value, w3.heap[w.heap.size]? = some (.cells #[o.1, o.2] 33 (0, 0)) := by
                  obtain ⟨o, ho⟩ := HRES.out
                  exact ⟨o, blk_grown (blk_alloc (blk_below ho HB2.out (blk_lt ho)) _) hgrow (own_ne HOWN2.out (by omega))⟩
                have hres13 : ∃ o : Value × Value × Value, w3.heap[w.heap.size + 1]? = some (.cells #[o.1, o.2.1, o.2.2] 26 (0, 0)) := by
                  obtain ⟨o, ho⟩ := HRES1.out
                  exact ⟨o, blk_grown (blk_alloc (blk_below ho HB2.out (blk_lt ho)) _) hgrow (own_ne HOWN2.out (by omega))⟩
                have HR3 := Lib.hid hres3
                have HR13 := Lib.hid hres13
                have HOWN3 := Lib.hid (show w3.ownsRow (w.heap.size + 2) 2 1 (.slice (some ⟨gg, 0, none⟩) (acc.length + 1) cap) (acc.length + 1) (nums .i64 (acc ++ [(34 : Int)])) by rw [nums_append]; exact hown3)
                clear hres3 hres13 hown3 hgrow hat3 hlt3 e0 e1 ef
                go_wp2
                go_roundg f
                case measure => omega
                case rel =>
                  obtain ⟨o, ho⟩ := HR3.out
                  obtain ⟨o', ho'⟩ := HR13.out
                  have hm4 := moves_set HM3.out (at_ + 2)
                  have hown4 := own_far (p := ⟨g, 1, none⟩) HOWN3.out (by simp; omega) (.int .i64 ((at_ + 2 : Nat) : Int))
                  refine ⟨at_ + 2, acc ++ [(34 : Int)], by omega, by omega, by have := HACC.out; simp; omega, HRG.out, by simpa using hm4, ⟨o, by simpa using blk_far (p := ⟨g, 1, none⟩) ho (by simp; omega) (.int .i64 ((at_ + 2 : Nat) : Int))⟩, ⟨o', by simpa using blk_far (p := ⟨g, 1, none⟩) ho' (by simp; omega) (.int .i64 ((at_ + 2 : Nat) : Int))⟩, by simpa using hown4⟩
              · by_cases hc2 : Kx.gt (nb s) (at_ + 1) = 92
                · rw [hc2] at PK
                  have hlt1 : at_ + 1 < s.size := by have := Kx.gt_lt (l := nb s) (i := at_ + 1) (by rw [hc2]; decide); omega
                  have HRG := Lib.hid (show Kx.textAt f (nb s) i (at_ + 2) (acc ++ [(92 : Int)]) = R by 

                      rw [← HM.out, Kx.textAt, if_pos (by omega), HONE.out, if_neg (by show ¬ (k : Int) = 0; omega), if_neg (by show ¬ (92 : Int) = 34; omega), if_pos (show (((92 : Nat) : Int), (k : Int)).1 = 92 ∧ (Kx.gt (nb s) (at_ + 1) = 34 ∨ Kx.gt (nb s) (at_ + 1) = 92) from ⟨rfl, .inr hc2⟩), hc2])
                  have hacc1 : acc.length ≤ 100000 := by have := HACC.out; omega
                  have HOWN2 := Lib.hid (own_below HOWN.out HB2.out)
                  have hbs : w.heap.size + 1 < w2.heap.size := by obtain ⟨o, ho⟩ := HRES1.out; have := blk_lt ho; have := HB2.out.size; omega
                  go_wp2_with fail
                  refine (PK.out w2 HM2.out.2).mono ?_
                  rintro e w3 ⟨rfl, rfl⟩
                  go_wp2_with fail
                  refine (PK.out w2 HM2.out.2).mono ?_
                  rintro e w3 ⟨rfl, rfl⟩
                  go_wp2_with fail
                  refine (PK.out w2 HM2.out.2).mono ?_
                  rintro e w3 ⟨rfl, rfl⟩
                  go_wp2_with
                    (at_builtin; refine wpList_append_lies _ rfl (.tmp 98) (.tmp 100) 44 rfl (w.heap.size + 2) 2 i2 _ 1 8 Try.underlying44 hi2 hz2 hs2 hb2 rfl (by omega) (.slice vA acc.length vc) acc.length (nums .i64 acc) rfl (HOWN2.out.alloc _)
                        ⟨w2.heap.size, 0, none⟩ 1 1 (nums .i64 [(92 : Int)]) rfl rfl (World.news_of_block (cs := (nums .i64 [(92 : Int)]).toArray) (t := 2) (fr := (0, 0)) (heap_alloc_new w2 _)) nums_one (by omega) (by unfold maxLen; omega) (by omega) (by simp; omega) (w2.heap.size + 1) (by simp) ?_; intro gg cap w3 hown3 hgrow hat3 hlt3; have HM3 := Lib.hid (moves_own (moves_below HM2.out ((Below.refl w2.heap.size w2).alloc (Nat.le_refl _) (Obj.cells (nums .i64 [(92 : Int)]).toArray 2))) hgrow hgl (fun b hb => by have := (HOWN2.out.lt b hb).1; omega)); have d1 := blk_cell HM3.out.2 1; have df := blk_frozen HM3.out.2 1)
                  have hres3 : ∃ o : Value × Value, w3.heap[w.heap.size]? = some (.cells #[o.1, o.2] 33 (0, 0)) := by
                    obtain ⟨o, ho⟩ := HRES.out
                    exact ⟨o, blk_grown (blk_alloc (blk_below ho HB2.out (blk_lt ho)) _) hgrow (own_ne HOWN2.out (by omega))⟩
                  have hres13 : ∃ o : Value × Value × Value, w3.heap[w.heap.size + 1]? = some (.cells #[o.1, o.2.1, o.2.2] 26 (0, 0)) := by
                    obtain ⟨o, ho⟩ := HRES1.out
                    exact ⟨o, blk_grown (blk_alloc (blk_below ho HB2.out (blk_lt ho)) _) hgrow (own_ne HOWN2.out (by omega))⟩
                  have HR3 := Lib.hid hres3
                  have HR13 := Lib.hid hres13
                  have HOWN3 := Lib.hid (show w3.ownsRow (w.heap.size + 2) 2 1 (.slice (some ⟨gg, 0, none⟩) (acc.length + 1) cap) (acc.length + 1) (nums .i64 (acc ++ [(92 : Int)])) by rw [nums_append]; exact hown3)
                  clear hres3 hres13 hown3 hgrow hat3 hlt3 e0 e1 ef
                  go_wp2
                  go_roundg f
                  case measure => omega
                  case rel =>
                    obtain ⟨o, ho⟩ := HR3.out
                    obtain ⟨o', ho'⟩ := HR13.out
                    have hm4 := moves_set HM3.out (at_ + 2)
                    have hown4 := own_far (p := ⟨g, 1, none⟩) HOWN3.out (by simp; omega) (.int .i64 ((at_ + 2 : Nat) : Int))
                    refine ⟨at_ + 2, acc ++ [(92 : Int)], by omega, by omega, by have := HACC.out; simp; omega, HRG.out, by simpa using hm4, ⟨o, by simpa using blk_far (p := ⟨g, 1, none⟩) ho (by simp; omega) (.int .i64 ((at_ + 2 : Nat) : Int))⟩, ⟨o', by simpa using blk_far (p := ⟨g, 1, none⟩) ho' (by simp; omega) (.int .i64 ((at_ + 2 : Nat) : Int))⟩, by simpa using hown4⟩
                · have hRb : R = .bad 2 at_ := by
                    rw [← HM.out, Kx.textAt, if_pos (by omega), HONE.out, if_neg (by show ¬ (k : Int) = 0; omega), if_neg (by show ¬ (92 : Int) = 34; omega), if_neg (by show ¬ ((92 : Int) = 92 ∧ (_ ∨ _)); intro h; exact h.2.elim hc hc2), if_pos (.inl rfl)]
                  subst hRb
                  generalize Kx.gt (nb s) (at_ + 1) = c1 at hc hc2 PK
                  have bc : (c1 == 34) = false := beq_eq_false_iff_ne.2 hc
                  have bc2 : (c1 == 92) = false := beq_eq_false_iff_ne.2 hc2
                  go_wp2_with fail
                  refine (PK.out w2 HM2.out.2).mono ?_
                  rintro e w3 ⟨rfl, rfl⟩
                  go_wp2_with fail
                  refine (PK.out w2 HM2.out.2).mono ?_
                  rintro e w3 ⟨rfl, rfl⟩
                  obtain ⟨⟨o0, o1⟩, hres⟩ := HRES.out
                  obtain ⟨⟨p0, p1, p2⟩, hres1⟩ := HRES1.out
                  have h0 := blk_below hres HB2.out (blk_lt hres)
                  have h1 := blk_below hres1 HB2.out (blk_lt hres1)
                  have r0 := blk_cell h0 0
                  have r1 := blk_cell h0 1
                  have rf0 := blk_frozen h0 0
                  have rf1 := blk_frozen h0 1
                  have t0 := blk_cell h1 0
                  have t1 := blk_cell h1 1
                  have t2 := blk_cell h1 2
                  have tf0 := blk_frozen h1 0
                  have tf1 := blk_frozen h1 1
                  have tf2 := blk_frozen h1 2
                  have H0 := Lib.hid h0
                  have H1 := Lib.hid h1
                  clear h0 h1 hres hres1
                  go_wp2
                  go_region
                  all_goals
                    go_wp2
                    obtain ⟨q0, q1, q2, q3, q4⟩ := five_cells H0.out H1.out (.slice none 0 0) (.slice none 0 0) (.int .i64 2) (.int .i64 (at_ : Int)) (.int .i64 0)
                    unfold fiveSet at q0 q1 q2 q3 q4
                    refine bodyPost_ret (v := .tuple #[.agg #[.slice none 0 0, .slice none 0 0], .agg #[.int .i64 2, .int .i64 (at_ : Int), .int .i64 0]]) (by simp [results, Try.results24, go_sem, q0, q1, q2, q3, q4]) rfl ?_
                    exact ⟨rfl, at_, moves_drew (five_moves HM2.out hgl _ _ _ _ _)⟩
            · have b92 : ((x : Int) == 92) = false := beq_eq_false_iff_ne.2 (by omega)
              by_cases xs : x < 32 ∨ x = 127
              · have hRb : R = .bad 2 at_ := by
                  rw [← HM.out, Kx.textAt, if_pos (by omega), HONE.out, if_neg (by show ¬ (k : Int) = 0; omega), if_neg (by show ¬ (x : Int) = 34; omega), if_neg (by show ¬ ((x : Int) = 92 ∧ _); omega), if_pos (by show (x : Int) = 92 ∨ (x : Int) < 32 ∨ (x : Int) = 127; omega)]
                subst hRb
                obtain ⟨⟨o0, o1⟩, hres⟩ := HRES.out
                obtain ⟨⟨p0, p1, p2⟩, hres1⟩ := HRES1.out
                have h0 := blk_below hres HB2.out (blk_lt hres)
                have h1 := blk_below hres1 HB2.out (blk_lt hres1)
                have r0 := blk_cell h0 0
                have r1 := blk_cell h0 1
                have rf0 := blk_frozen h0 0
                have rf1 := blk_frozen h0 1
                have t0 := blk_cell h1 0
                have t1 := blk_cell h1 1
                have t2 := blk_cell h1 2
                have tf0 := blk_frozen h1 0
                have tf1 := blk_frozen h1 1
                have tf2 := blk_frozen h1 2
                have H0 := Lib.hid h0
                have H1 := Lib.hid h1
                clear h0 h1 hres hres1
                rcases xs with xs | xs
                · have c32 : decide ((x : Int) < 32) = true := decide_eq_true (by omega)
                  go_wp2
                  go_region
                  all_goals
                    go_wp2
                    obtain ⟨q0, q1, q2, q3, q4⟩ := five_cells H0.out H1.out (.slice none 0 0) (.slice none 0 0) (.int .i64 2) (.int .i64 (at_ : Int)) (.int .i64 0)
                    unfold fiveSet at q0 q1 q2 q3 q4
                    refine bodyPost_ret (v := .tuple #[.agg #[.slice none 0 0, .slice none 0 0], .agg #[.int .i64 2, .int .i64 (at_ : Int), .int .i64 0]]) (by simp [results, Try.results24, go_sem, q0, q1, q2, q3, q4]) rfl ?_
                    exact ⟨rfl, at_, moves_drew (five_moves HM2.out hgl _ _ _ _ _)⟩
                · subst xs
                  go_wp2
                  go_region
                  all_goals
                    go_wp2
                    obtain ⟨q0, q1, q2, q3, q4⟩ := five_cells H0.out H1.out (.slice none 0 0) (.slice none 0 0) (.int .i64 2) (.int .i64 (at_ : Int)) (.int .i64 0)
                    unfold fiveSet at q0 q1 q2 q3 q4
                    refine bodyPost_ret (v := .tuple #[.agg #[.slice none 0 0, .slice none 0 0], .agg #[.int .i64 2, .int .i64 (at_ : Int), .int .i64 0]]) (by simp [results, Try.results24, go_sem, q0, q1, q2, q3, q4]) rfl ?_
                    exact ⟨rfl, at_, moves_drew (five_moves HM2.out hgl _ _ _ _ _)⟩
              · have hxn : ¬ (x < 32) ∧ ¬ x = 127 := by omega
                have HRG := Lib.hid (show Kx.textAt f (nb s) i (at_ + k) (acc ++ [(x : Int)]) = R by 
                    rw [← HM.out, Kx.textAt, if_pos (by omega), HONE.out, if_neg (by show ¬ (k : Int) = 0; omega), if_neg (by show ¬ (x : Int) = 34; omega), if_neg (by show ¬ ((x : Int) = 92 ∧ _); omega), if_neg (by show ¬ ((x : Int) = 92 ∨ (x : Int) < 32 ∨ (x : Int) = 127); omega)]
                    rfl)
                have hacc1 : acc.length ≤ 100000 := by have := HACC.out; omega
                have HOWN2 := Lib.hid (own_below HOWN.out HB2.out)
                have hbs : w.heap.size + 1 < w2.heap.size := by obtain ⟨o, ho⟩ := HRES1.out; have := blk_lt ho; have := HB2.out.size; omega
                have c32 : decide ((x : Int) < 32) = false := decide_eq_false (by omega)
                have c127 : ((x : Int) == 127) = false := beq_eq_false_iff_ne.2 (by omega)
                go_wp2_with
                  (at_builtin; refine wpList_append_lies _ rfl (.tmp 98) (.tmp 100) 44 rfl (w.heap.size + 2) 2 i2 _ 1 8 Try.underlying44 hi2 hz2 hs2 hb2 rfl (by omega) (.slice vA acc.length vc) acc.length (nums .i64 acc) rfl (HOWN2.out.alloc _)
                      ⟨w2.heap.size, 0, none⟩ 1 1 (nums .i64 [(x : Int)]) rfl rfl (World.news_of_block (cs := (nums .i64 [(x : Int)]).toArray) (t := 2) (fr := (0, 0)) (heap_alloc_new w2 _)) nums_one (by omega) (by unfold maxLen; omega) (by omega) (by simp; omega) (w2.heap.size + 1) (by simp) ?_; intro gg cap w3 hown3 hgrow hat3 hlt3; have HM3 := Lib.hid (moves_own (moves_below HM2.out ((Below.refl w2.heap.size w2).alloc (Nat.le_refl _) (Obj.cells (nums .i64 [(x : Int)]).toArray 2))) hgrow hgl (fun b hb => by have := (HOWN2.out.lt b hb).1; omega)); have d1 := blk_cell HM3.out.2 1; have df := blk_frozen HM3.out.2 1)
                have hres3 : ∃ o : Value × Value, w3.heap[w.heap.size]? = some (.cells #[o.1, o.2] 33 (0, 0)) := by
                  obtain ⟨o, ho⟩ := HRES.out
                  exact ⟨o, blk_grown (blk_alloc (blk_below ho HB2.out (blk_lt ho)) _) hgrow (own_ne HOWN2.out (by omega))⟩
                have hres13 : ∃ o : Value × Value × Value, w3.heap[w.heap.size + 1]? = some (.cells #[o.1, o.2.1, o.2.2] 26 (0, 0)) := by
                  obtain ⟨o, ho⟩ := HRES1.out
                  exact ⟨o, blk_grown (blk_alloc (blk_below ho HB2.out (blk_lt ho)) _) hgrow (own_ne HOWN2.out (by omega))⟩
                have HR3 := Lib.hid hres3
                have HR13 := Lib.hid hres13
                have HOWN3 := Lib.hid (show w3.ownsRow (w.heap.size + 2) 2 1 (.slice (some ⟨gg, 0, none⟩) (acc.length + 1) cap) (acc.length + 1) (nums .i64 (acc ++ [(x : Int)])) by rw [nums_append]; exact hown3)
                clear hres3 hres13 hown3 hgrow hat3 hlt3 e0 e1 ef
                go_wp2
                go_roundg f
                case measure => omega
                case rel =>
                  obtain ⟨o, ho⟩ := HR3.out
                  obtain ⟨o', ho'⟩ := HR13.out
                  have hm4 := moves_set HM3.out (at_ + k)
                  have hown4 := own_far (p := ⟨g, 1, none⟩) HOWN3.out (by simp; omega) (.int .i64 ((at_ + k : Nat) : Int))
                  refine ⟨at_ + k, acc ++ [(x : Int)], by omega, by omega, by have := HACC.out; simp; omega, HRG.out, by simpa using hm4, ⟨o, by simpa using blk_far (p := ⟨g, 1, none⟩) ho (by simp; omega) (.int .i64 ((at_ + k : Nat) : Int))⟩, ⟨o', by simpa using blk_far (p := ⟨g, 1, none⟩) ho' (by simp; omega) (.int .i64 ((at_ + k : Nat) : Int))⟩, by simpa using hown4⟩
    · have hRb : R = .bad 2 i := by rw [← HM.out, Kx.textAt, if_neg (by omega)]
      subst hRb
      have hlz : decide ((at_ : Int) < (s.size : Int)) = false := decide_eq_false (by omega)
      have hln : decide (at_ < s.size) = false := decide_eq_false (by omega)
      obtain ⟨⟨o0, o1⟩, hres⟩ := HRES.out
      obtain ⟨⟨p0, p1, p2⟩, hres1⟩ := HRES1.out
      have r0 := blk_cell hres 0
      have r1 := blk_cell hres 1
      have rf0 := blk_frozen hres 0
      have rf1 := blk_frozen hres 1
      have t0 := blk_cell hres1 0
      have t1 := blk_cell hres1 1
      have t2 := blk_cell hres1 2
      have tf0 := blk_frozen hres1 0
      have tf1 := blk_frozen hres1 1
      have tf2 := blk_frozen hres1 2
      have H0 := Lib.hid hres
      have H1 := Lib.hid hres1
      clear hres hres1 hin
      go_wp2
      go_quiet (fail)
      go_wp2
      obtain ⟨q0, q1, q2, q3, q4⟩ := five_cells (blk_drewN H0.out nq) (blk_drewN H1.out nq) (.slice none 0 0) (.slice none 0 0) (.int .i64 2) (.int .i64 (i : Int)) (.int .i64 0)
      unfold fiveSet at q0 q1 q2 q3 q4
      refine bodyPost_ret (v := .tuple #[.agg #[.slice none 0 0, .slice none 0 0], .agg #[.int .i64 2, .int .i64 (i : Int), .int .i64 0]]) (by simp [results, Try.results24, go_sem, q0, q1, q2, q3, q4]) rfl ?_
      exact ⟨rfl, at_, five_moves (moves_drewN HMV.out nq) hgl _ _ _ _ _⟩
end Go.Proofs.Ytkghglncmekdgaa
