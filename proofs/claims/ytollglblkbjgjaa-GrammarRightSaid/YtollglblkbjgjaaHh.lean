/- Contracts of the reference's verbs and fixed. Conditions: the text is no longer than a million bytes. -/
import Derived.Test.YtollglblkbjgjaaHg
namespace Go.Proofs.Ytollglblkbjgjaa
open Go.RowKit

theorem strs_new (w : World) (l : List ByteArray) : StrsAt (w.alloc (.cells (l.map Value.string).toArray 9)) (some ⟨w.heap.size, 0, none⟩) l := by
 intro _
 refine ⟨w.heap.size, 0, rfl, fun j x hx => ?_⟩
 rw [Nat.zero_add, blk_cell (blk_new w _)]
 simp [hx]
/-- which of some kinds' words stands at a place -/
def chainM (s : ByteArray) (i : Nat) : List (List ByteArray × Int) → Option (Int × ByteArray)
 | [] => none
 | (l, k) :: r => match l.find? fun x => startsM s i x with
    | some x => some (k, x)
    | none => chainM s i r
theorem chainM_cons (s : ByteArray) (i : Nat) (l : List ByteArray) (k : Int) (r : List (List ByteArray × Int)) : chainM s i ((l, k) :: r) = match l.find? fun x => startsM s i x with
  | some x => some (k, x)
  | none => chainM s i r := rfl
def ChainTo (o : Option (Int × ByteArray)) (i : Nat) (w : World) (e : Ending) (w' : World) : Prop := Below w.heap.size w w' ∧ match o with
 | some (k, x) => e = .returned (.tuple #[.agg #[.int .i64 k, .string x, .slice none 0 0, .slice none 0 0, .int .i64 (i : Int)], .bool true])
 | none => e = .returned (.tuple #[.agg #[.int .i64 0, .string ⟨#[]⟩, .slice none 0 0, .slice none 0 0, .int .i64 0], .bool false])
def verbsL : List ByteArray := [⟨#[43]⟩, ⟨#[45]⟩, ⟨#[195, 151]⟩, ⟨#[124]⟩, ⟨#[126]⟩, ⟨#[226, 141, 179]⟩, ⟨#[226, 141, 180]⟩, ⟨#[226, 137, 162]⟩, ⟨#[44]⟩, ⟨#[226, 138, 150]⟩, ⟨#[226, 140, 189]⟩, ⟨#[226, 141, 137]⟩, ⟨#[226, 141, 139]⟩, ⟨#[226, 141, 146]⟩, ⟨#[226, 136, 170]⟩, ⟨#[226, 138, 130]⟩, ⟨#[226, 138, 131]⟩, ⟨#[195, 183]⟩, ⟨#[226, 140, 138]⟩, ⟨#[226, 140, 136]⟩, ⟨#[61]⟩, ⟨#[226, 137, 160]⟩, ⟨#[60]⟩, ⟨#[62]⟩, ⟨#[226, 137, 164]⟩, ⟨#[226, 137, 165]⟩, ⟨#[226, 134, 145]⟩, ⟨#[226, 134, 147]⟩, ⟨#[226, 141, 170]⟩, ⟨#[226, 136, 138]⟩, ⟨#[226, 140, 191]⟩, ⟨#[47]⟩, ⟨#[92]⟩, ⟨#[226, 141, 128]⟩, ⟨#[226, 140, 183]⟩, ⟨#[226, 141, 168]⟩, ⟨#[226, 141, 163]⟩, ⟨#[226, 139, 132]⟩, ⟨#[226, 136, 152, 46]⟩]
theorem verbsL_len : verbsL.length = 39 := rfl
theorem verbsL_size : ∀ x ∈ verbsL, 1 ≤ x.size ∧ x.size ≤ 1000 := by decide
theorem verbsL_new (w : World) : StrsAt (w.alloc (.cells #[.string ⟨#[43]⟩, .string ⟨#[45]⟩, .string ⟨#[195, 151]⟩, .string ⟨#[124]⟩, .string ⟨#[126]⟩, .string ⟨#[226, 141, 179]⟩, .string ⟨#[226, 141, 180]⟩, .string ⟨#[226, 137, 162]⟩, .string ⟨#[44]⟩, .string ⟨#[226, 138, 150]⟩, .string ⟨#[226, 140, 189]⟩, .string ⟨#[226, 141, 137]⟩, .string ⟨#[226, 141, 139]⟩, .string ⟨#[226, 141, 146]⟩, .string ⟨#[226, 136, 170]⟩, .string ⟨#[226, 138, 130]⟩, .string ⟨#[226, 138, 131]⟩, .string ⟨#[195, 183]⟩, .string ⟨#[226, 140, 138]⟩, .string ⟨#[226, 140, 136]⟩, .string ⟨#[61]⟩, .string ⟨#[226, 137, 160]⟩, .string ⟨#[60]⟩, .string ⟨#[62]⟩, .string ⟨#[226, 137, 164]⟩, .string ⟨#[226, 137, 165]⟩, .string ⟨#[226, 134, 145]⟩, .string ⟨#[226, 134, 147]⟩, .string ⟨#[226, 141, 170]⟩, .string ⟨#[226, 136, 138]⟩, .string ⟨#[226, 140, 191]⟩, .string ⟨#[47]⟩, .string ⟨#[92]⟩, .string ⟨#[226, 141, 128]⟩, .string ⟨#[226, 140, 183]⟩, .string ⟨#[226, 141, 168]⟩, .string ⟨#[226, 141, 163]⟩, .string ⟨#[226, 139, 132]⟩, .string ⟨#[226, 136, 152, 46]⟩] 9)) (some ⟨w.heap.size, 0, none⟩) verbsL := strs_new w verbsL
set_option maxRecDepth 100000 in
theorem verbs_any (w : World) : Calls Try.prog 70 #[] w (fun e w' => Below w.heap.size w w' ∧ e = .returned (.slice (some ⟨w.heap.size, 0, none⟩) 39 39) ∧ StrsAt w' (some ⟨w.heap.size, 0, none⟩) verbsL) := by
 have h := verbsL_new w
 have HS := Lib.hid h
 clear h
 go_enter Try.func70, Try.ntmps70
 go_wp2
 refine bodyPost_ret (v := .slice (some ⟨w.heap.size, 0, none⟩) 39 39) (by simp [results, Try.results70, go_sem]) rfl ?_
 exact ⟨(Below.refl _ _).alloc (Nat.le_refl _) _, rfl, HS.out⟩
def w12a : List ByteArray := [⟨#[226, 142, 149, 73, 79]⟩, ⟨#[226, 141, 186]⟩, ⟨#[226, 141, 181]⟩]
theorem w12a_len : w12a.length = 3 := rfl
theorem w12a_size : ∀ x ∈ w12a, 1 ≤ x.size ∧ x.size ≤ 1000 := by decide
theorem w12a_new (w : World) : StrsAt (w.alloc (.cells #[.string ⟨#[226, 142, 149, 73, 79]⟩, .string ⟨#[226, 141, 186]⟩, .string ⟨#[226, 141, 181]⟩] 9)) (some ⟨w.heap.size, 0, none⟩) w12a := strs_new w w12a
def w12b : List ByteArray := [⟨#[226, 134, 144]⟩]
theorem w12b_len : w12b.length = 1 := rfl
theorem w12b_size : ∀ x ∈ w12b, 1 ≤ x.size ∧ x.size ≤ 1000 := by decide
theorem w12b_new (w : World) : StrsAt (w.alloc (.cells #[.string ⟨#[226, 134, 144]⟩] 9)) (some ⟨w.heap.size, 0, none⟩) w12b := strs_new w w12b
def w12c : List ByteArray := [⟨#[40]⟩, ⟨#[123]⟩, ⟨#[91]⟩]
theorem w12c_len : w12c.length = 3 := rfl
theorem w12c_size : ∀ x ∈ w12c, 1 ≤ x.size ∧ x.size ≤ 1000 := by decide
theorem w12c_new (w : World) : StrsAt (w.alloc (.cells #[.string ⟨#[40]⟩, .string ⟨#[123]⟩, .string ⟨#[91]⟩] 9)) (some ⟨w.heap.size, 0, none⟩) w12c := strs_new w w12c
def w12d : List ByteArray := [⟨#[41]⟩, ⟨#[125]⟩, ⟨#[93]⟩]
theorem w12d_len : w12d.length = 3 := rfl
theorem w12d_size : ∀ x ∈ w12d, 1 ≤ x.size ∧ x.size ≤ 1000 := by decide
theorem w12d_new (w : World) : StrsAt (w.alloc (.cells #[.string ⟨#[41]⟩, .string ⟨#[125]⟩, .string ⟨#[93]⟩] 9)) (some ⟨w.heap.size, 0, none⟩) w12d := strs_new w w12d
def fixed12_anyL : List (List ByteArray × Int) := [(w12a, 3), (w12b, 7), (w12c, 5), (w12d, 6), (verbsL, 4)]
set_option maxRecDepth 100000 in
set_option maxHeartbeats 8000000 in
theorem fixed12_any (s : ByteArray) (i : Nat) (w : World) (hs : s.size ≤ 1000000) (hi : i ≤ s.size) : Calls Try.prog 44 #[.string s, .int .i64 (i : Int)] w (ChainTo (chainM s i fixed12_anyL) i w) := by
 obtain ⟨R, HM⟩ : ∃ R, chainM s i fixed12_anyL = R := ⟨_, rfl⟩
 rw [HM]
 unfold fixed12_anyL at HM
 have HB0 := Lib.hid ((Below.refl _ w).alloc (Nat.le_refl _) (.cells #[.int .i64 0, .string ⟨#[]⟩, .slice none 0 0, .slice none 0 0, .int .i64 0] 43))
 have HRES0 := Lib.hid (blk_new w (.cells #[.int .i64 0, .string ⟨#[]⟩, .slice none 0 0, .slice none 0 0, .int .i64 0] 43))
 go_enter Try.func44, Try.ntmps44
 have hs1 := w12a_new (w.alloc (.cells #[.int .i64 0, .string ⟨#[]⟩, .slice none 0 0, .slice none 0 0, .int .i64 0] 43))
 rw [show (w.alloc (.cells #[.int .i64 0, .string ⟨#[]⟩, .slice none 0 0, .slice none 0 0, .int .i64 0] 43)).heap.size = w.heap.size + 1 by simp] at hs1
 have HS1 := Lib.hid hs1
 clear hs1
 go_wp2_with fail
 refine (fixedL_any (some ⟨w.heap.size + 1, 0, none⟩) 3 w12a s i 3 _ HS1.out (by rw [w12a_len]; decide) (fun x hx => (w12a_size x hx).2) hs hi).mono ?_
 rintro e x1 ⟨hb1, hm1⟩
 have HB1 := Lib.hid (below_then (HB0.out.alloc HB0.out.size (.cells #[.string ⟨#[226, 142, 149, 73, 79]⟩, .string ⟨#[226, 141, 186]⟩, .string ⟨#[226, 141, 181]⟩] 9)) (by have := HB0.out.size; simp at this ⊢; omega) hb1)
 have HRES1 := Lib.hid (blk_below (blk_alloc HRES0.out (.cells #[.string ⟨#[226, 142, 149, 73, 79]⟩, .string ⟨#[226, 141, 186]⟩, .string ⟨#[226, 141, 181]⟩] 9)) hb1 (by have := blk_lt HRES0.out; simp at this ⊢; omega))
 clear hb1 HB0 HRES0 HS1
 rw [chainM_cons] at HM
 cases hfd : w12a.find? fun x => startsM s i x with
 | some x =>
  rw [hfd] at hm1 HM
  dsimp only at hm1 HM
  subst HM
  obtain rfl := hm1
  have hres0 := blk_lt HRES1.out
  have hb0 := HB1.out.size
  clear hfd
  have r0 := blk_cell HRES1.out 0
  have rf0 := blk_frozen HRES1.out 0
  have r1 := blk_cell HRES1.out 1
  have rf1 := blk_frozen HRES1.out 1
  have r2 := blk_cell HRES1.out 2
  have rf2 := blk_frozen HRES1.out 2
  have r3 := blk_cell HRES1.out 3
  have rf3 := blk_frozen HRES1.out 3
  have r4 := blk_cell HRES1.out 4
  have rf4 := blk_frozen HRES1.out 4
  go_wp2_with fail
  have hr := blk_alloc (five_blk HRES1.out (.int .i64 3) (.string x) (.slice none 0 0) (.slice none 0 0) (.int .i64 (i : Int))) (.cells #[.int .i64 3, .string x, .slice none 0 0, .slice none 0 0, .int .i64 (i : Int)] 43)
  unfold fiveSet at hr
  have q0 := blk_cell hr 0
  have q1 := blk_cell hr 1
  have q2 := blk_cell hr 2
  have q3 := blk_cell hr 3
  have q4 := blk_cell hr 4
  refine bodyPost_ret (v := .tuple #[.agg #[.int .i64 3, .string x, .slice none 0 0, .slice none 0 0, .int .i64 (i : Int)], .bool true]) (by simp [results, Try.results44, go_sem, q0, q1, q2, q3, q4]) rfl ?_
  exact ⟨(below_five HB1.out (Nat.le_refl _) (.int .i64 3) (.string x) (.slice none 0 0) (.slice none 0 0) (.int .i64 (i : Int))).alloc (by simpa [World.setCell, fiveSet] using hb0) _, rfl⟩
 | none =>
  rw [hfd] at hm1 HM
  dsimp only at hm1 HM
  obtain rfl := hm1
  clear hfd
  have hb0 := HB1.out.size
  have HBN1 := Lib.hid (HB1.out.alloc hb0 (.cells #[.int .i64 0, .string ⟨#[]⟩, .slice none 0 0, .slice none 0 0, .int .i64 0] 43))
  have HRN1 := Lib.hid (blk_alloc HRES1.out (.cells #[.int .i64 0, .string ⟨#[]⟩, .slice none 0 0, .slice none 0 0, .int .i64 0] 43))
  clear HB1 HRES1 hb0
  have hs2 := w12b_new (x1.alloc (.cells #[.int .i64 0, .string ⟨#[]⟩, .slice none 0 0, .slice none 0 0, .int .i64 0] 43))
  rw [show (x1.alloc (.cells #[.int .i64 0, .string ⟨#[]⟩, .slice none 0 0, .slice none 0 0, .int .i64 0] 43)).heap.size = x1.heap.size + 1 by simp] at hs2
  have HS2 := Lib.hid hs2
  clear hs2
  go_wp2_with fail
  refine (fixedL_any (some ⟨x1.heap.size + 1, 0, none⟩) 1 w12b s i 7 _ HS2.out (by rw [w12b_len]; decide) (fun x hx => (w12b_size x hx).2) hs hi).mono ?_
  rintro e x2 ⟨hb2, hm2⟩
  have HB2 := Lib.hid (below_then (HBN1.out.alloc HBN1.out.size (.cells #[.string ⟨#[226, 134, 144]⟩] 9)) (by have := HBN1.out.size; simp at this ⊢; omega) hb2)
  have HRES2 := Lib.hid (blk_below (blk_alloc HRN1.out (.cells #[.string ⟨#[226, 134, 144]⟩] 9)) hb2 (by have := blk_lt HRN1.out; simp at this ⊢; omega))
  clear hb2 HBN1 HRN1 HS2
  rw [chainM_cons] at HM
  cases hfd : w12b.find? fun x => startsM s i x with
  | some x =>
   rw [hfd] at hm2 HM
   dsimp only at hm2 HM
   subst HM
   obtain rfl := hm2
   have hres0 := blk_lt HRES2.out
   have hb0 := HB2.out.size
   clear hfd
   have r0 := blk_cell HRES2.out 0
   have rf0 := blk_frozen HRES2.out 0
   have r1 := blk_cell HRES2.out 1
   have rf1 := blk_frozen HRES2.out 1
   have r2 := blk_cell HRES2.out 2
   have rf2 := blk_frozen HRES2.out 2
   have r3 := blk_cell HRES2.out 3
   have rf3 := blk_frozen HRES2.out 3
   have r4 := blk_cell HRES2.out 4
   have rf4 := blk_frozen HRES2.out 4
   go_wp2_with fail
   have hr := blk_alloc (five_blk HRES2.out (.int .i64 7) (.string x) (.slice none 0 0) (.slice none 0 0) (.int .i64 (i : Int))) (.cells #[.int .i64 7, .string x, .slice none 0 0, .slice none 0 0, .int .i64 (i : Int)] 43)
   unfold fiveSet at hr
   have q0 := blk_cell hr 0
   have q1 := blk_cell hr 1
   have q2 := blk_cell hr 2
   have q3 := blk_cell hr 3
   have q4 := blk_cell hr 4
   refine bodyPost_ret (v := .tuple #[.agg #[.int .i64 7, .string x, .slice none 0 0, .slice none 0 0, .int .i64 (i : Int)], .bool true]) (by simp [results, Try.results44, go_sem, q0, q1, q2, q3, q4]) rfl ?_
   exact ⟨(below_five HB2.out (Nat.le_refl _) (.int .i64 7) (.string x) (.slice none 0 0) (.slice none 0 0) (.int .i64 (i : Int))).alloc (by simpa [World.setCell, fiveSet] using hb0) _, rfl⟩
  | none =>
   rw [hfd] at hm2 HM
   dsimp only at hm2 HM
   obtain rfl := hm2
   clear hfd
   have hb0 := HB2.out.size
   have HBN2 := Lib.hid (HB2.out.alloc hb0 (.cells #[.int .i64 0, .string ⟨#[]⟩, .slice none 0 0, .slice none 0 0, .int .i64 0] 43))
   have HRN2 := Lib.hid (blk_alloc HRES2.out (.cells #[.int .i64 0, .string ⟨#[]⟩, .slice none 0 0, .slice none 0 0, .int .i64 0] 43))
   clear HB2 HRES2 hb0
   have hs3 := w12c_new (x2.alloc (.cells #[.int .i64 0, .string ⟨#[]⟩, .slice none 0 0, .slice none 0 0, .int .i64 0] 43))
   rw [show (x2.alloc (.cells #[.int .i64 0, .string ⟨#[]⟩, .slice none 0 0, .slice none 0 0, .int .i64 0] 43)).heap.size = x2.heap.size + 1 by simp] at hs3
   have HS3 := Lib.hid hs3
   clear hs3
   go_wp2_with fail
   refine (fixedL_any (some ⟨x2.heap.size + 1, 0, none⟩) 3 w12c s i 5 _ HS3.out (by rw [w12c_len]; decide) (fun x hx => (w12c_size x hx).2) hs hi).mono ?_
   rintro e x3 ⟨hb3, hm3⟩
   have HB3 := Lib.hid (below_then (HBN2.out.alloc HBN2.out.size (.cells #[.string ⟨#[40]⟩, .string ⟨#[123]⟩, .string ⟨#[91]⟩] 9)) (by have := HBN2.out.size; simp at this ⊢; omega) hb3)
   have HRES3 := Lib.hid (blk_below (blk_alloc HRN2.out (.cells #[.string ⟨#[40]⟩, .string ⟨#[123]⟩, .string ⟨#[91]⟩] 9)) hb3 (by have := blk_lt HRN2.out; simp at this ⊢; omega))
   clear hb3 HBN2 HRN2 HS3
   rw [chainM_cons] at HM
   cases hfd : w12c.find? fun x => startsM s i x with
   | some x =>
    rw [hfd] at hm3 HM
    dsimp only at hm3 HM
    subst HM
    obtain rfl := hm3
    have hres0 := blk_lt HRES3.out
    have hb0 := HB3.out.size
    clear hfd
    have r0 := blk_cell HRES3.out 0
    have rf0 := blk_frozen HRES3.out 0
    have r1 := blk_cell HRES3.out 1
    have rf1 := blk_frozen HRES3.out 1
    have r2 := blk_cell HRES3.out 2
    have rf2 := blk_frozen HRES3.out 2
    have r3 := blk_cell HRES3.out 3
    have rf3 := blk_frozen HRES3.out 3
    have r4 := blk_cell HRES3.out 4
    have rf4 := blk_frozen HRES3.out 4
    go_wp2_with fail
    have hr := blk_alloc (five_blk HRES3.out (.int .i64 5) (.string x) (.slice none 0 0) (.slice none 0 0) (.int .i64 (i : Int))) (.cells #[.int .i64 5, .string x, .slice none 0 0, .slice none 0 0, .int .i64 (i : Int)] 43)
    unfold fiveSet at hr
    have q0 := blk_cell hr 0
    have q1 := blk_cell hr 1
    have q2 := blk_cell hr 2
    have q3 := blk_cell hr 3
    have q4 := blk_cell hr 4
    refine bodyPost_ret (v := .tuple #[.agg #[.int .i64 5, .string x, .slice none 0 0, .slice none 0 0, .int .i64 (i : Int)], .bool true]) (by simp [results, Try.results44, go_sem, q0, q1, q2, q3, q4]) rfl ?_
    exact ⟨(below_five HB3.out (Nat.le_refl _) (.int .i64 5) (.string x) (.slice none 0 0) (.slice none 0 0) (.int .i64 (i : Int))).alloc (by simpa [World.setCell, fiveSet] using hb0) _, rfl⟩
   | none =>
    rw [hfd] at hm3 HM
    dsimp only at hm3 HM
    obtain rfl := hm3
    clear hfd
    have hb0 := HB3.out.size
    have HBN3 := Lib.hid (HB3.out.alloc hb0 (.cells #[.int .i64 0, .string ⟨#[]⟩, .slice none 0 0, .slice none 0 0, .int .i64 0] 43))
    have HRN3 := Lib.hid (blk_alloc HRES3.out (.cells #[.int .i64 0, .string ⟨#[]⟩, .slice none 0 0, .slice none 0 0, .int .i64 0] 43))
    clear HB3 HRES3 hb0
    have hs4 := w12d_new (x3.alloc (.cells #[.int .i64 0, .string ⟨#[]⟩, .slice none 0 0, .slice none 0 0, .int .i64 0] 43))
    rw [show (x3.alloc (.cells #[.int .i64 0, .string ⟨#[]⟩, .slice none 0 0, .slice none 0 0, .int .i64 0] 43)).heap.size = x3.heap.size + 1 by simp] at hs4
    have HS4 := Lib.hid hs4
    clear hs4
    go_wp2_with fail
    refine (fixedL_any (some ⟨x3.heap.size + 1, 0, none⟩) 3 w12d s i 6 _ HS4.out (by rw [w12d_len]; decide) (fun x hx => (w12d_size x hx).2) hs hi).mono ?_
    rintro e x4 ⟨hb4, hm4⟩
    have HB4 := Lib.hid (below_then (HBN3.out.alloc HBN3.out.size (.cells #[.string ⟨#[41]⟩, .string ⟨#[125]⟩, .string ⟨#[93]⟩] 9)) (by have := HBN3.out.size; simp at this ⊢; omega) hb4)
    have HRES4 := Lib.hid (blk_below (blk_alloc HRN3.out (.cells #[.string ⟨#[41]⟩, .string ⟨#[125]⟩, .string ⟨#[93]⟩] 9)) hb4 (by have := blk_lt HRN3.out; simp at this ⊢; omega))
    clear hb4 HBN3 HRN3 HS4
    rw [chainM_cons] at HM
    cases hfd : w12d.find? fun x => startsM s i x with
    | some x =>
     rw [hfd] at hm4 HM
     dsimp only at hm4 HM
     subst HM
     obtain rfl := hm4
     have hres0 := blk_lt HRES4.out
     have hb0 := HB4.out.size
     clear hfd
     have r0 := blk_cell HRES4.out 0
     have rf0 := blk_frozen HRES4.out 0
     have r1 := blk_cell HRES4.out 1
     have rf1 := blk_frozen HRES4.out 1
     have r2 := blk_cell HRES4.out 2
     have rf2 := blk_frozen HRES4.out 2
     have r3 := blk_cell HRES4.out 3
     have rf3 := blk_frozen HRES4.out 3
     have r4 := blk_cell HRES4.out 4
     have rf4 := blk_frozen HRES4.out 4
     go_wp2_with fail
     have hr := blk_alloc (five_blk HRES4.out (.int .i64 6) (.string x) (.slice none 0 0) (.slice none 0 0) (.int .i64 (i : Int))) (.cells #[.int .i64 6, .string x, .slice none 0 0, .slice none 0 0, .int .i64 (i : Int)] 43)
     unfold fiveSet at hr
     have q0 := blk_cell hr 0
     have q1 := blk_cell hr 1
     have q2 := blk_cell hr 2
     have q3 := blk_cell hr 3
     have q4 := blk_cell hr 4
     refine bodyPost_ret (v := .tuple #[.agg #[.int .i64 6, .string x, .slice none 0 0, .slice none 0 0, .int .i64 (i : Int)], .bool true]) (by simp [results, Try.results44, go_sem, q0, q1, q2, q3, q4]) rfl ?_
     exact ⟨(below_five HB4.out (Nat.le_refl _) (.int .i64 6) (.string x) (.slice none 0 0) (.slice none 0 0) (.int .i64 (i : Int))).alloc (by simpa [World.setCell, fiveSet] using hb0) _, rfl⟩
    | none =>
     rw [hfd] at hm4 HM
     dsimp only at hm4 HM
     obtain rfl := hm4
     clear hfd
     have hb0 := HB4.out.size
     have HBN4 := Lib.hid (HB4.out.alloc hb0 (.cells #[.int .i64 0, .string ⟨#[]⟩, .slice none 0 0, .slice none 0 0, .int .i64 0] 43))
     have HRN4 := Lib.hid (blk_alloc HRES4.out (.cells #[.int .i64 0, .string ⟨#[]⟩, .slice none 0 0, .slice none 0 0, .int .i64 0] 43))
     clear HB4 HRES4 hb0
     go_wp2_with fail
     refine (verbs_any _).mono ?_
     rintro e y0 ⟨hb0, rfl, hs0⟩
     have HB0 := Lib.hid (below_then HBN4.out HBN4.out.size hb0)
     have HRES0 := Lib.hid (blk_below HRN4.out hb0 (blk_lt HRN4.out))
     rw [show (x4.alloc (.cells #[.int .i64 0, .string ⟨#[]⟩, .slice none 0 0, .slice none 0 0, .int .i64 0] 43)).heap.size = x4.heap.size + 1 by simp] at hs0
     have HS0 := Lib.hid hs0
     clear hb0 hs0 HBN4 HRN4
     go_wp2_with fail
     refine (fixedL_any (some ⟨x4.heap.size + 1, 0, none⟩) 39 verbsL s i 4 _ HS0.out (by rw [verbsL_len]; decide) (fun x hx => (verbsL_size x hx).2) hs hi).mono ?_
     rintro e y1 ⟨hb1, hm1⟩
     have HB1 := Lib.hid (below_then HB0.out HB0.out.size hb1)
     have HRES1 := Lib.hid (blk_below HRES0.out hb1 (blk_lt HRES0.out))
     clear hb1 HB0 HRES0 HS0
     rw [chainM_cons, chainM] at HM
     have hres0 := blk_lt HRES1.out
     have r0 := blk_cell HRES1.out 0
     have rf0 := blk_frozen HRES1.out 0
     have r1 := blk_cell HRES1.out 1
     have rf1 := blk_frozen HRES1.out 1
     have r2 := blk_cell HRES1.out 2
     have rf2 := blk_frozen HRES1.out 2
     have r3 := blk_cell HRES1.out 3
     have rf3 := blk_frozen HRES1.out 3
     have r4 := blk_cell HRES1.out 4
     have rf4 := blk_frozen HRES1.out 4
     cases hfd : verbsL.find? fun x => startsM s i x with
     | some x =>
      rw [hfd] at hm1 HM
      dsimp only at hm1 HM
      subst HM
      obtain rfl := hm1
      clear hfd
      go_wp2_with fail
      have hr := five_blk HRES1.out (.int .i64 4) (.string x) (.slice none 0 0) (.slice none 0 0) (.int .i64 (i : Int))
      unfold fiveSet at hr
      have q0 := blk_cell hr 0
      have q1 := blk_cell hr 1
      have q2 := blk_cell hr 2
      have q3 := blk_cell hr 3
      have q4 := blk_cell hr 4
      refine bodyPost_ret (v := .tuple #[.agg #[.int .i64 4, .string x, .slice none 0 0, .slice none 0 0, .int .i64 (i : Int)], .bool true]) (by simp [results, Try.results44, go_sem, q0, q1, q2, q3, q4]) rfl ?_
      exact ⟨below_five HB1.out (Nat.le_refl _) (.int .i64 4) (.string x) (.slice none 0 0) (.slice none 0 0) (.int .i64 (i : Int)), rfl⟩
     | none =>
      rw [hfd] at hm1 HM
      dsimp only at hm1 HM
      subst HM
      obtain rfl := hm1
      clear hfd
      go_wp2_with fail
      have hr := five_blk HRES1.out (.int .i64 0) (.string ⟨#[]⟩) (.slice none 0 0) (.slice none 0 0) (.int .i64 0)
      unfold fiveSet at hr
      have q0 := blk_cell hr 0
      have q1 := blk_cell hr 1
      have q2 := blk_cell hr 2
      have q3 := blk_cell hr 3
      have q4 := blk_cell hr 4
      refine bodyPost_ret (v := .tuple #[.agg #[.int .i64 0, .string ⟨#[]⟩, .slice none 0 0, .slice none 0 0, .int .i64 0], .bool false]) (by simp [results, Try.results44, go_sem, q0, q1, q2, q3, q4]) rfl ?_
      exact ⟨below_five HB1.out (Nat.le_refl _) (.int .i64 0) (.string ⟨#[]⟩) (.slice none 0 0) (.slice none 0 0) (.int .i64 0), rfl⟩
end Go.Proofs.Ytollglblkbjgjaa
