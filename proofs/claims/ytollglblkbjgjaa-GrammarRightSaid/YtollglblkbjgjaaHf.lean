/- Contracts of the reference's Quoted. Conditions: the text is no longer than a million bytes. -/
import Derived.Test.YtollglblkbjgjaaHe
namespace Go.Proofs.Ytollglblkbjgjaa
open Go.RowKit

theorem five_heap (w : World) (B b : Nat) (hb : b ≠ B) (a0 a1 a2 a3 a4 : Value) : (fiveSet w B a0 a1 a2 a3 a4).heap[b]? = w.heap[b]? := by
 unfold fiveSet
 rw [Below.heap_setCell _ _ _ b (by simpa using hb), Below.heap_setCell _ _ _ b (by simpa using hb), Below.heap_setCell _ _ _ b (by simpa using hb), Below.heap_setCell _ _ _ b (by simpa using hb), Below.heap_setCell _ _ _ b (by simpa using hb)]
/-- a word and a fault are laid into the results' variables -/
def eightSet (w : World) (B C : Nat) (a0 a1 a2 a3 a4 b0 b1 b2 : Value) : World := (((fiveSet w B a0 a1 a2 a3 a4).setCell ⟨C, 0, none⟩ b0).setCell ⟨C, 1, none⟩ b1).setCell ⟨C, 2, none⟩ b2
theorem eight_res {w : World} {B C : Nat} {o0 o1 o2 o3 o4 p0 p1 p2 : Value} (h0 : w.heap[B]? = some (.cells #[o0, o1, o2, o3, o4] 43 (0, 0))) (h1 : w.heap[C]? = some (.cells #[p0, p1, p2] 28 (0, 0))) (hne : B ≠ C) (a0 a1 a2 a3 a4 b0 b1 b2 : Value) :
  (eightSet w B C a0 a1 a2 a3 a4 b0 b1 b2).heap[B]? = some (.cells #[a0, a1, a2, a3, a4] 43 (0, 0)) ∧ (eightSet w B C a0 a1 a2 a3 a4 b0 b1 b2).heap[C]? = some (.cells #[b0, b1, b2] 28 (0, 0)) := by
 constructor
 ·unfold eightSet
  exact blk_far (p := ⟨C, 2, none⟩) (blk_far (p := ⟨C, 1, none⟩) (blk_far (p := ⟨C, 0, none⟩) (five_blk h0 a0 a1 a2 a3 a4) (by simpa using hne) b0) (by simpa using hne) b1) (by simpa using hne) b2
 ·unfold eightSet
  exact three_blk ((five_heap w B C (Ne.symm hne) a0 a1 a2 a3 a4).trans h1) b0 b1 b2
theorem below_eight {B g h : Nat} {w w' : World} (hb : Below B w w') (hg : B ≤ g) (hh : B ≤ h) (a0 a1 a2 a3 a4 b0 b1 b2 : Value) : Below B w (eightSet w' g h a0 a1 a2 a3 a4 b0 b1 b2) :=
 below_set (below_set (below_set (below_five hb hg a0 a1 a2 a3 a4) hh 0 b0) hh 1 b1) hh 2 b2
theorem LitAt.eight {S : Nat → Prop} {w : World} {v : Value} {t : ArrD} {g h : Nat} (hl : LitAt S w v t) (hg : ∀ b, S b → b ≠ g) (hh : ∀ b, S b → b ≠ h) (a0 a1 a2 a3 a4 b0 b1 b2 : Value) : LitAt S (eightSet w g h a0 a1 a2 a3 a4 b0 b1 b2) v t :=
 (((((((hl.set hg).set hg).set hg).set hg).set hg).set hh).set hh).set hh
/-- what one word is read as; M: what is known of it ahead -/
def WordTo (M : Option (Int × ByteArray × Nat)) (s : ByteArray) (i : Nat) (w : World) (e : Ending) (w' : World) : Prop := Below w.heap.size w w' ∧
 ∃ (v : Value) (k : Int) (x : ByteArray) (a to : Nat) (er at_ : Int), e = .returned (.tuple #[v, .int .i64 (to : Int), faultV er at_]) ∧ TokV w.heap.size w' v k x a ∧ x.size ≤ s.size ∧ (er ≠ 0 ∨ er = 0 ∧ i < to ∧ to ≤ s.size) ∧ (∀ k' x' j, M = some (k', x', j) → er = 0 ∧ k = k' ∧ x = x' ∧ to = j)
theorem one_cases {l : List Int} {p : Nat} (hp : p < l.length) (hb : Spec.Bytes l) :
  Spec.one (l.drop p) = (0, 0) ∨ ∃ x k : Nat, Spec.one (l.drop p) = ((x : Int), (k : Int)) ∧ 1 ≤ k ∧ k ≤ 4 ∧ p + k ≤ l.length ∧ x < 1114112 := by
 have hbd : Spec.Bytes (l.drop p) := fun x hx => hb x (List.mem_of_mem_drop hx)
 have hsp := Spec.one_spec _ hbd
 generalize hq : Spec.one (l.drop p) = q at hsp ⊢
 clear hq
 rcases hsp with ⟨h1, h2, r, h3⟩ | ⟨h1, h2⟩
 ·right
  have hl : 1 ≤ (Spec.enc q.1).length ∧ (Spec.enc q.1).length ≤ 4 := by unfold Spec.enc; split <;> (try split) <;> (try split) <;> simp
  have hx := Spec.good_iff.1 h1
  have hlen : l.length - p = (Spec.enc q.1).length + r.length := by rw [← List.length_drop, h3, List.length_append]
  refine ⟨q.1.toNat, (Spec.enc q.1).length, ?_, hl.1, hl.2, by omega, by omega⟩
  rw [Int.toNat_of_nonneg (by omega), ← h2]
 ·exact .inl h1
theorem sign_cases {s : ByteArray} {i : Nat} (h : i < s.size) : (signM s i = (0, 0)) ∨ ∃ x k : Nat, signM s i = ((x : Int), (k : Int)) ∧ 1 ≤ k ∧ k ≤ 4 ∧ i + k ≤ s.size ∧ x < 1114112 := by
 have := one_cases (l := nb s) (p := i) (by rw [nb_length]; exact h) (nb_bytes s)
 rw [nb_length] at this
 exact this
set_option maxRecDepth 100000 in
set_option maxHeartbeats 8000000 in
theorem quoted_any (s : ByteArray) (i : Nat) (w : World) (hs : s.size ≤ 1000000) (hi : i < s.size) : Calls Try.prog 41 #[.string s, .int .i64 (i : Int)] w (WordTo none s i w) := by
 obtain ⟨i2, hi2, hz2, hs2, hb2⟩ := info_parts info2
 have hw1 : IntKind.i64.wrap ((i : Int) + 1) = ((i + 1 : Nat) : Int) := (wraps_i64 _ (by omega) (by omega)).trans (by omega)
 obtain ⟨i1, hi1⟩ : ∃ i1, i + 1 = i1 := ⟨_, rfl⟩
 rw [hi1] at hw1
 have hi1l : i < i1 ∧ i1 ≤ s.size := by omega
 clear hi1
 go_enter Try.func41, Try.ntmps41
 go_wp2
 go_loopw [8, 9] (fun l q wr => ∃ (k : Nat) (acc : List Int), l = l ∧ q = .int .i64 k ∧ i1 ≤ k ∧ k ≤ s.size ∧ acc.length ≤ k ∧ Below w.heap.size w wr ∧ wr.heap[w.heap.size]? = some (.cells #[.int .i64 0, .string ⟨#[]⟩, .slice none 0 0, .slice none 0 0, .int .i64 0] 43 (0, 0)) ∧ wr.heap[w.heap.size + 1]? = some (.cells #[.int .i64 0, .int .i64 0, .int .i64 0] 28 (0, 0)) ∧ wr.heap[w.heap.size + 2]? = some (.cells #[.int .i64 2, .string ⟨#[]⟩, .slice none 0 0, .slice none 0 0, .int .i64 (i : Int)] 43 (0, 0)) ∧ wr.ownsRow (w.heap.size + 3) 2 1 l acc.length (nums .i64 acc)) (fun _ q _ => s.size - (intOf q).toNat)
 case atStart =>
  refine ⟨i1, [], rfl, rfl, Nat.le_refl _, hi1l.2, Nat.zero_le _, ((((Below.refl _ _).alloc (Nat.le_refl _) _).alloc (by simp) _).alloc (by simp; omega) _), blk_alloc (blk_alloc (blk_new w _) _) _, ?_, ?_, World.ownsRow_nil _ _ _ _⟩
  ·have := blk_alloc (blk_new (w.alloc (.cells #[.int .i64 0, .string ⟨#[]⟩, .slice none 0 0, .slice none 0 0, .int .i64 0] 43)) (.cells #[.int .i64 0, .int .i64 0, .int .i64 0] 28)) (.cells #[.int .i64 2, .string ⟨#[]⟩, .slice none 0 0, .slice none 0 0, .int .i64 (i : Int)] 43)
   simpa using this
  ·have := blk_new ((w.alloc (.cells #[.int .i64 0, .string ⟨#[]⟩, .slice none 0 0, .slice none 0 0, .int .i64 0] 43)).alloc (.cells #[.int .i64 0, .int .i64 0, .int .i64 0] 28)) (.cells #[.int .i64 2, .string ⟨#[]⟩, .slice none 0 0, .slice none 0 0, .int .i64 (i : Int)] 43)
   simpa using this
 case round =>
  obtain ⟨k, acc, -, rfl, hik, hk, hacc, hb, hres, hfb, htk, hown⟩ := hrel
  have HB0 := Lib.hid hb
  have HRES0 := Lib.hid hres
  have HFB0 := Lib.hid hfb
  have HTK0 := Lib.hid htk
  have HOWN0 := Lib.hid hown
  clear hb hres hfb htk hown
  by_cases hlt : k < s.size
  ·have d1 : decide ((k : Int) < (s.size : Int)) = true := decide_eq_true (by omega)
   have hsc := sign_cases hlt
   go_wp2_with fail
   refine (sign_at s k wr hs hk).mono ?_
   rintro e w1 ⟨rfl, hb1⟩
   have HB := Lib.hid (below_then HB0.out HB0.out.size hb1)
   have HRES := Lib.hid (blk_below HRES0.out hb1 (blk_lt HRES0.out))
   have HFB := Lib.hid (blk_below HFB0.out hb1 (blk_lt HFB0.out))
   have HTK := Lib.hid (blk_below HTK0.out hb1 (blk_lt HTK0.out))
   have HOWN := Lib.hid (own_below HOWN0.out hb1)
   clear hb1 HB0 HRES0 HFB0 HTK0 HOWN0
   generalize w1 = wr at *
   have hres0 := blk_lt HRES.out
   have hfb0 := blk_lt HFB.out
   have htk0 := blk_lt HTK.out
   have t0 := blk_cell HTK.out 0
   have tf0 := blk_frozen HTK.out 0
   have t1 := blk_cell HTK.out 1
   have tf1 := blk_frozen HTK.out 1
   have t2 := blk_cell HTK.out 2
   have tf2 := blk_frozen HTK.out 2
   have t3 := blk_cell HTK.out 3
   have tf3 := blk_frozen HTK.out 3
   have t4 := blk_cell HTK.out 4
   have tf4 := blk_frozen HTK.out 4
   have r0 := blk_cell HRES.out 0
   have rf0 := blk_frozen HRES.out 0
   have r1 := blk_cell HRES.out 1
   have rf1 := blk_frozen HRES.out 1
   have r2 := blk_cell HRES.out 2
   have rf2 := blk_frozen HRES.out 2
   have r3 := blk_cell HRES.out 3
   have rf3 := blk_frozen HRES.out 3
   have r4 := blk_cell HRES.out 4
   have rf4 := blk_frozen HRES.out 4
   have g0 := blk_cell HFB.out 0
   have gf0 := blk_frozen HFB.out 0
   have g1 := blk_cell HFB.out 1
   have gf1 := blk_frozen HFB.out 1
   have g2 := blk_cell HFB.out 2
   have gf2 := blk_frozen HFB.out 2
   rcases hsc with hsc | ⟨n, kk, hsc, hk1, hk4, hks, hn⟩
   ·rw [hsc]
    clear hsc
    go_wp2
    obtain ⟨hr, hf⟩ := eight_res HRES.out HFB.out (by omega) (.int .i64 2) (.string ⟨#[]⟩) (.slice none 0 0) (.slice none 0 0) (.int .i64 (i : Int)) (.int .i64 3) (.int .i64 (k : Int)) (.int .i64 0)
    unfold eightSet fiveSet at hr hf
    have q0 := blk_cell hr 0
    have q1 := blk_cell hr 1
    have q2 := blk_cell hr 2
    have q3 := blk_cell hr 3
    have q4 := blk_cell hr 4
    have q5 := blk_cell hf 0
    have q6 := blk_cell hf 1
    have q7 := blk_cell hf 2
    refine bodyPost_ret (v := .tuple #[.agg #[.int .i64 2, .string ⟨#[]⟩, .slice none 0 0, .slice none 0 0, .int .i64 (i : Int)], .int .i64 (k : Int), faultV (3) ((k : Int))]) (by simp [results, Try.results41, go_sem, faultV, q0, q1, q2, q3, q4, q5, q6, q7]) rfl ?_
    exact ⟨below_eight HB.out (Nat.le_refl _) (by omega) (.int .i64 2) (.string ⟨#[]⟩) (.slice none 0 0) (.slice none 0 0) (.int .i64 (i : Int)) (.int .i64 3) (.int .i64 (k : Int)) (.int .i64 0), _, _, _, i, k, _, _, rfl, ⟨none, 0, 0, none, 0, 0, ⟨[], []⟩, rfl, lit_none _ _⟩, Nat.zero_le _, .inl (by decide), fun _ _ _ h => by cases h⟩
   ·rw [hsc]
    clear hsc
    have b0 : ((kk : Int) == 0) = false := beq_eq_false_iff_ne.2 (by omega)
    by_cases h39 : n = 39
    ·subst h39
     have HST := Lib.hid (starts_any s ⟨#[39, 39]⟩ k wr hs (by omega) (by decide))
     cases hst : startsM s k ⟨#[39, 39]⟩ with
     | true =>
      have hle : k + 2 ≤ s.size := starts_le hst
      rw [hst] at HST
      clear hst
      have hwk : IntKind.i64.wrap ((k : Int) + 2) = ((k + 2 : Nat) : Int) := (wraps_i64 _ (by omega) (by omega)).trans (by omega)
      go_wp2_with fail
      refine HST.out.mono ?_
      rintro e w3 ⟨rfl, hww⟩
      obtain rfl : wr = w3 := hww.symm
      go_wp2_with
       (at_builtin; refine wpList_append_lies _ rfl (.tmp 55) (.tmp 57) 96 rfl (w.heap.size + 3) 2 i2 _ 1 8 Try.underlying96 hi2 hz2 hs2 hb2 rfl (by omega) u8 acc.length (nums .i64 acc) rfl (HOWN.out.alloc _)
           ⟨wr.heap.size, 0, none⟩ 1 1 (nums .i64 [(39 : Int)]) rfl rfl (World.news_of_block (cs := (nums .i64 [(39 : Int)]).toArray) (t := 2) (fr := (0, 0)) (heap_alloc_new wr _)) nums_one (by omega) (by unfold maxLen; omega) (by omega) (by simp; omega) (wr.heap.size + 1) (by simp) ?_; intro gg cap w2 hown2 hgrow hat2 hlt2; have HOWN2 := Lib.hid (show w2.ownsRow (w.heap.size + 3) 2 1 (.slice (some ⟨gg, 0, none⟩) (acc.length + 1) cap) (acc.length + 1) (nums .i64 (acc ++ [(39 : Int)])) by rw [nums_append]; exact hown2); have HB2 := Lib.hid (((HB.out.alloc HB.out.size _).grown hgrow (by have := HB.out.size; simp; omega) (fun b hb => by have := (HOWN.out.lt b hb).1; omega)) : Below w.heap.size w w2); have HRES2 := Lib.hid (blk_grown (blk_alloc HRES.out (Obj.cells (nums .i64 [(39 : Int)]).toArray 2)) hgrow (own_ne HOWN.out (by omega))); have HFB2 := Lib.hid (blk_grown (blk_alloc HFB.out (Obj.cells (nums .i64 [(39 : Int)]).toArray 2)) hgrow (own_ne HOWN.out (by omega))); have HTK2 := Lib.hid (blk_grown (blk_alloc HTK.out (Obj.cells (nums .i64 [(39 : Int)]).toArray 2)) hgrow (own_ne HOWN.out (by omega))))

      go_roundw
      case rel => exact ⟨k + 2, acc ++ [(39 : Int)], trivial, by go_num, by omega, by omega, by rw [List.length_append]; simp; omega, HB2.out, HRES2.out, HFB2.out, HTK2.out, by rw [show (acc ++ [(39 : Int)]).length = acc.length + 1 by simp]; exact HOWN2.out⟩
      case measure => simp [intOf]; omega
     | false =>
      rw [hst] at HST
      clear hst
      obtain ⟨lA, lcap, rfl, hlc, _, _, _, hrw⟩ := own_row HOWN.out
      have HRW := Lib.hid hrw
      clear hrw
      go_wp2_with fail
      refine HST.out.mono ?_
      rintro e w3 ⟨rfl, hww⟩
      obtain rfl : wr = w3 := hww.symm
      go_wp2_with fail
      refine (rtext_any lA acc.length lcap acc wr HRW.out rfl (by omega)).mono ?_
      rintro e w4 ⟨v4, rfl, hlit4, hb4⟩
      obtain ⟨A4, n4, c4, B4, m4, d4, rfl⟩ := hlit4.form
      have hwk : IntKind.i64.wrap ((k : Int) + 1) = ((k + 1 : Nat) : Int) := (wraps_i64 _ (by omega) (by omega)).trans (by omega)
      have HB4 := Lib.hid (below_then HB.out HB.out.size hb4)
      have HRES4 := Lib.hid (blk_below HRES.out hb4 hres0)
      have HFB4 := Lib.hid (blk_below HFB.out hb4 hfb0)
      have HTK4 := Lib.hid (blk_below HTK.out hb4 htk0)
      have hs4 := hb4.size
      have HLIT5 := Lib.hid ((hlit4.set (g := w.heap.size + 2) (i := 2) (u := .slice A4 n4 c4) (fun b (hb : wr.heap.size ≤ b) => by omega)).mono (T := fun b => w.heap.size + 2 < b) (Nat.le_refl _) (fun b (hb : wr.heap.size ≤ b) _ => ⟨by omega, rfl⟩))
      have HLIT6 := Lib.hid (HLIT5.out.set (g := w.heap.size + 2) (i := 3) (u := .slice B4 m4 d4) (fun b hb => by omega))
      clear hlit4 hb4 t0 tf0 r0 rf0 t1 tf1 r1 rf1 t2 tf2 r2 rf2 t3 tf3 r3 rf3 t4 tf4 r4 rf4 g0 gf0 g1 gf1 g2 gf2
      have HB5 := Lib.hid (below_set (below_set HB4.out (g := w.heap.size + 2) (by omega) 2 (.slice A4 n4 c4)) (g := w.heap.size + 2) (by omega) 3 (.slice B4 m4 d4))
      have HRES5 := Lib.hid (blk_far (p := ⟨w.heap.size + 2, 3, none⟩) (blk_far (p := ⟨w.heap.size + 2, 2, none⟩) HRES4.out (by simp) (.slice A4 n4 c4)) (by simp) (.slice B4 m4 d4))
      have HFB5 := Lib.hid (blk_far (p := ⟨w.heap.size + 2, 3, none⟩) (blk_far (p := ⟨w.heap.size + 2, 2, none⟩) HFB4.out (by simp) (.slice A4 n4 c4)) (by simp) (.slice B4 m4 d4))
      have hres4 := blk_lt HRES4.out
      have hfb4 := blk_lt HFB4.out
      have htk4 := blk_lt HTK4.out
      have t0 := blk_cell HTK4.out 0
      have tf0 := blk_frozen HTK4.out 0
      have t1 := blk_cell HTK4.out 1
      have tf1 := blk_frozen HTK4.out 1
      have t2 := blk_cell HTK4.out 2
      have tf2 := blk_frozen HTK4.out 2
      have t3 := blk_cell HTK4.out 3
      have tf3 := blk_frozen HTK4.out 3
      have t4 := blk_cell HTK4.out 4
      have tf4 := blk_frozen HTK4.out 4
      have r0 := blk_cell HRES4.out 0
      have rf0 := blk_frozen HRES4.out 0
      have r1 := blk_cell HRES4.out 1
      have rf1 := blk_frozen HRES4.out 1
      have r2 := blk_cell HRES4.out 2
      have rf2 := blk_frozen HRES4.out 2
      have r3 := blk_cell HRES4.out 3
      have rf3 := blk_frozen HRES4.out 3
      have r4 := blk_cell HRES4.out 4
      have rf4 := blk_frozen HRES4.out 4
      have g0 := blk_cell HFB4.out 0
      have gf0 := blk_frozen HFB4.out 0
      have g1 := blk_cell HFB4.out 1
      have gf1 := blk_frozen HFB4.out 1
      have g2 := blk_cell HFB4.out 2
      have gf2 := blk_frozen HFB4.out 2
      go_wp2_with fail
      obtain ⟨hr, hf⟩ := eight_res HRES5.out HFB5.out (by omega) (.int .i64 2) (.string ⟨#[]⟩) (.slice A4 n4 c4) (.slice B4 m4 d4) (.int .i64 (i : Int)) (.int .i64 0) (.int .i64 0) (.int .i64 0)
      unfold eightSet fiveSet at hr hf
      have q0 := blk_cell hr 0
      have q1 := blk_cell hr 1
      have q2 := blk_cell hr 2
      have q3 := blk_cell hr 3
      have q4 := blk_cell hr 4
      have q5 := blk_cell hf 0
      have q6 := blk_cell hf 1
      have q7 := blk_cell hf 2
      refine bodyPost_ret (v := .tuple #[.agg #[.int .i64 2, .string ⟨#[]⟩, .slice A4 n4 c4, .slice B4 m4 d4, .int .i64 (i : Int)], .int .i64 (k + 1 : Int), faultV (0) (0)]) (by simp [results, Try.results41, go_sem, faultV, q0, q1, q2, q3, q4, q5, q6, q7]) rfl ?_
      exact ⟨below_eight HB5.out (Nat.le_refl _) (by omega) (.int .i64 2) (.string ⟨#[]⟩) (.slice A4 n4 c4) (.slice B4 m4 d4) (.int .i64 (i : Int)) (.int .i64 0) (.int .i64 0) (.int .i64 0), _, _, _, i, k + 1, _, _, rfl, ⟨_, _, _, _, _, _, _, rfl, (HLIT6.out.eight (fun b hb => by omega) (fun b hb => by omega) _ _ _ _ _ _ _ _).from (fun b hb => by omega)⟩, Nat.zero_le _, .inr ⟨rfl, by omega, by omega⟩, fun _ _ _ h => by cases h⟩
    ·have b39 : ((n : Int) == 39) = false := beq_eq_false_iff_ne.2 (by omega)
     by_cases h32 : n < 32
     ·have d32 : decide ((n : Int) < 32) = true := decide_eq_true (by omega)
      go_wp2
      obtain ⟨hr, hf⟩ := eight_res HRES.out HFB.out (by omega) (.int .i64 2) (.string ⟨#[]⟩) (.slice none 0 0) (.slice none 0 0) (.int .i64 (i : Int)) (.int .i64 2) (.int .i64 (k : Int)) (.int .i64 0)
      unfold eightSet fiveSet at hr hf
      have q0 := blk_cell hr 0
      have q1 := blk_cell hr 1
      have q2 := blk_cell hr 2
      have q3 := blk_cell hr 3
      have q4 := blk_cell hr 4
      have q5 := blk_cell hf 0
      have q6 := blk_cell hf 1
      have q7 := blk_cell hf 2
      refine bodyPost_ret (v := .tuple #[.agg #[.int .i64 2, .string ⟨#[]⟩, .slice none 0 0, .slice none 0 0, .int .i64 (i : Int)], .int .i64 (k : Int), faultV (2) ((k : Int))]) (by simp [results, Try.results41, go_sem, faultV, q0, q1, q2, q3, q4, q5, q6, q7]) rfl ?_
      exact ⟨below_eight HB.out (Nat.le_refl _) (by omega) (.int .i64 2) (.string ⟨#[]⟩) (.slice none 0 0) (.slice none 0 0) (.int .i64 (i : Int)) (.int .i64 2) (.int .i64 (k : Int)) (.int .i64 0), _, _, _, i, k, _, _, rfl, ⟨none, 0, 0, none, 0, 0, ⟨[], []⟩, rfl, lit_none _ _⟩, Nat.zero_le _, .inl (by decide), fun _ _ _ h => by cases h⟩
     ·have d32 : decide ((n : Int) < 32) = false := decide_eq_false (by omega)
      by_cases h127 : n = 127
      ·have b127 : ((n : Int) == 127) = true := beq_iff_eq.2 (by omega)
       clear h127
       go_wp2
       obtain ⟨hr, hf⟩ := eight_res HRES.out HFB.out (by omega) (.int .i64 2) (.string ⟨#[]⟩) (.slice none 0 0) (.slice none 0 0) (.int .i64 (i : Int)) (.int .i64 2) (.int .i64 (k : Int)) (.int .i64 0)
       unfold eightSet fiveSet at hr hf
       have q0 := blk_cell hr 0
       have q1 := blk_cell hr 1
       have q2 := blk_cell hr 2
       have q3 := blk_cell hr 3
       have q4 := blk_cell hr 4
       have q5 := blk_cell hf 0
       have q6 := blk_cell hf 1
       have q7 := blk_cell hf 2
       refine bodyPost_ret (v := .tuple #[.agg #[.int .i64 2, .string ⟨#[]⟩, .slice none 0 0, .slice none 0 0, .int .i64 (i : Int)], .int .i64 (k : Int), faultV (2) ((k : Int))]) (by simp [results, Try.results41, go_sem, faultV, q0, q1, q2, q3, q4, q5, q6, q7]) rfl ?_
       exact ⟨below_eight HB.out (Nat.le_refl _) (by omega) (.int .i64 2) (.string ⟨#[]⟩) (.slice none 0 0) (.slice none 0 0) (.int .i64 (i : Int)) (.int .i64 2) (.int .i64 (k : Int)) (.int .i64 0), _, _, _, i, k, _, _, rfl, ⟨none, 0, 0, none, 0, 0, ⟨[], []⟩, rfl, lit_none _ _⟩, Nat.zero_le _, .inl (by decide), fun _ _ _ h => by cases h⟩
      ·have b127 : ((n : Int) == 127) = false := beq_eq_false_iff_ne.2 (by omega)
       have hwk : IntKind.i64.wrap ((k : Int) + (kk : Int)) = ((k + kk : Nat) : Int) := (wraps_i64 _ (by omega) (by omega)).trans (by omega)
       clear h39 h32 h127
       go_wp2_with
        (at_builtin; refine wpList_append_lies _ rfl (.tmp 55) (.tmp 57) 96 rfl (w.heap.size + 3) 2 i2 _ 1 8 Try.underlying96 hi2 hz2 hs2 hb2 rfl (by omega) u8 acc.length (nums .i64 acc) rfl (HOWN.out.alloc _)
            ⟨wr.heap.size, 0, none⟩ 1 1 (nums .i64 [(n : Int)]) rfl rfl (World.news_of_block (cs := (nums .i64 [(n : Int)]).toArray) (t := 2) (fr := (0, 0)) (heap_alloc_new wr _)) nums_one (by omega) (by unfold maxLen; omega) (by omega) (by simp; omega) (wr.heap.size + 1) (by simp) ?_; intro gg cap w2 hown2 hgrow hat2 hlt2; have HOWN2 := Lib.hid (show w2.ownsRow (w.heap.size + 3) 2 1 (.slice (some ⟨gg, 0, none⟩) (acc.length + 1) cap) (acc.length + 1) (nums .i64 (acc ++ [(n : Int)])) by rw [nums_append]; exact hown2); have HB2 := Lib.hid (((HB.out.alloc HB.out.size _).grown hgrow (by have := HB.out.size; simp; omega) (fun b hb => by have := (HOWN.out.lt b hb).1; omega)) : Below w.heap.size w w2); have HRES2 := Lib.hid (blk_grown (blk_alloc HRES.out (Obj.cells (nums .i64 [(n : Int)]).toArray 2)) hgrow (own_ne HOWN.out (by omega))); have HFB2 := Lib.hid (blk_grown (blk_alloc HFB.out (Obj.cells (nums .i64 [(n : Int)]).toArray 2)) hgrow (own_ne HOWN.out (by omega))); have HTK2 := Lib.hid (blk_grown (blk_alloc HTK.out (Obj.cells (nums .i64 [(n : Int)]).toArray 2)) hgrow (own_ne HOWN.out (by omega))))

       go_roundw
       case rel => exact ⟨k + kk, acc ++ [(n : Int)], trivial, by go_num, by omega, by omega, by rw [List.length_append]; simp; omega, HB2.out, HRES2.out, HFB2.out, HTK2.out, by rw [show (acc ++ [(n : Int)]).length = acc.length + 1 by simp]; exact HOWN2.out⟩
       case measure => simp [intOf]; omega
  ·obtain rfl : k = s.size := by omega
   have d1 : decide ((s.size : Int) < (s.size : Int)) = false := decide_eq_false (by omega)
   have hres0 := blk_lt HRES0.out
   have hfb0 := blk_lt HFB0.out
   have htk0 := blk_lt HTK0.out
   have t0 := blk_cell HTK0.out 0
   have tf0 := blk_frozen HTK0.out 0
   have t1 := blk_cell HTK0.out 1
   have tf1 := blk_frozen HTK0.out 1
   have t2 := blk_cell HTK0.out 2
   have tf2 := blk_frozen HTK0.out 2
   have t3 := blk_cell HTK0.out 3
   have tf3 := blk_frozen HTK0.out 3
   have t4 := blk_cell HTK0.out 4
   have tf4 := blk_frozen HTK0.out 4
   have r0 := blk_cell HRES0.out 0
   have rf0 := blk_frozen HRES0.out 0
   have r1 := blk_cell HRES0.out 1
   have rf1 := blk_frozen HRES0.out 1
   have r2 := blk_cell HRES0.out 2
   have rf2 := blk_frozen HRES0.out 2
   have r3 := blk_cell HRES0.out 3
   have rf3 := blk_frozen HRES0.out 3
   have r4 := blk_cell HRES0.out 4
   have rf4 := blk_frozen HRES0.out 4
   have g0 := blk_cell HFB0.out 0
   have gf0 := blk_frozen HFB0.out 0
   have g1 := blk_cell HFB0.out 1
   have gf1 := blk_frozen HFB0.out 1
   have g2 := blk_cell HFB0.out 2
   have gf2 := blk_frozen HFB0.out 2
   go_wp2
   obtain ⟨hr, hf⟩ := eight_res HRES0.out HFB0.out (by omega) (.int .i64 2) (.string ⟨#[]⟩) (.slice none 0 0) (.slice none 0 0) (.int .i64 (i : Int)) (.int .i64 2) (.int .i64 (i : Int)) (.int .i64 0)
   unfold eightSet fiveSet at hr hf
   have q0 := blk_cell hr 0
   have q1 := blk_cell hr 1
   have q2 := blk_cell hr 2
   have q3 := blk_cell hr 3
   have q4 := blk_cell hr 4
   have q5 := blk_cell hf 0
   have q6 := blk_cell hf 1
   have q7 := blk_cell hf 2
   refine bodyPost_ret (v := .tuple #[.agg #[.int .i64 2, .string ⟨#[]⟩, .slice none 0 0, .slice none 0 0, .int .i64 (i : Int)], .int .i64 (s.size : Int), faultV (2) ((i : Int))]) (by simp [results, Try.results41, go_sem, faultV, q0, q1, q2, q3, q4, q5, q6, q7]) rfl ?_
   exact ⟨below_eight HB0.out (Nat.le_refl _) (by omega) (.int .i64 2) (.string ⟨#[]⟩) (.slice none 0 0) (.slice none 0 0) (.int .i64 (i : Int)) (.int .i64 2) (.int .i64 (i : Int)) (.int .i64 0), _, _, _, i, s.size, _, _, rfl, ⟨none, 0, 0, none, 0, 0, ⟨[], []⟩, rfl, lit_none _ _⟩, Nat.zero_le _, .inl (by decide), fun _ _ _ h => by cases h⟩
end Go.Proofs.Ytollglblkbjgjaa
